/- Parts of the proofs of layer 19 (radix): contracts of its functions, and the laws' walks. -/
import Derived.Test.YtdnnfoojdfmajaaProg
import Derived.WalkKit
import Derived.WalkSpells
import Derived.WalkLawsBesides
import Derived.BigQuiet
import Derived.Deep.QuietTactic
import Derived.Lib.Hide
import Derived.Deep.RegionHeld3
import Derived.Deep.DeepCutAuto
import Derived.KernelRfl
import Derived.Deep.OwnRows
import Derived.Laws.CopyOwn
import Derived.Laws.CopyRow
import Derived.StillTailTactics
import Derived.Deep.RegionLaw
import Derived.Handy
import Derived.Deep.CutRange
import Derived.Deep.CutBlock

namespace Go.Proofs.Ytdnnfoojdfmajaa
open Go.RowKit
set_option linter.unusedVariables false
set_option linter.unusedSimpArgs false
namespace G

theorem bcell {W w1 : World} (hb : Below W.heap.size W w1) : (∀ b o, b < W.heap.size → w1.cell? ⟨b, o, none⟩ = W.cell? ⟨b, o, none⟩) ∧ (∀ b o, b < W.heap.size → w1.frozen? ⟨b, o, none⟩ = W.frozen? ⟨b, o, none⟩) :=
  ⟨fun b o h => hb.cell (p := ⟨b, o, none⟩) h, fun b o h => hb.frozen (p := ⟨b, o, none⟩) h⟩
theorem bnext {w w1 w2 : World} (h : Below w.heap.size w w1) (k : Below w1.heap.size w1 w2) : Below w.heap.size w w2 := h.trans (k.mono h.size)
theorem bnextA {w w1 w2 : World} {o : Obj} (h : Below w.heap.size w w1) (k : Below (w1.alloc o).heap.size (w1.alloc o) w2) : Below w.heap.size w w2 := bnext (h.alloc h.size o) k
def ord (n : Int) : Bool := decide (0 ≤ n ∧ n ≤ 8)
theorem order_any (n : Int) (w : World) : Calls Try.prog 54 #[.int .i64 n] w fun e w' => e = .returned (.bool (ord n)) ∧ w = w' := by
  go_enter Try.func54, Try.ntmps54
  go_wp2
  all_goals
    go_ret
    exact ⟨by first | (simp [ord, *]; done) | (simp [ord, *]; omega), rfl⟩
/-- 2 to the n, of an order. -/
def two (n : Int) : Int := 2 ^ n.toNat
theorem two_vals : two 0 = 1 ∧ two 1 = 2 ∧ two 2 = 4 ∧ two 3 = 8 ∧ two 4 = 16 ∧ two 5 = 32 ∧ two 6 = 64 ∧ two 7 = 128 ∧ two 8 = 256 := by decide
def dwn (page n : Int) : Int := if ord n = true then page - page % two n else page
theorem andnot (page : Int) (m : Nat) (hm : m < 18446744073709551616) :
    bits .andNot .i64 page (m : Int) = IntKind.i64.wrap (((page % 18446744073709551616).toNat &&& (18446744073709551615 - m) : Nat) : Int) := by
  unfold bits
  have e1 : (BitVec.ofInt IntKind.i64.bits (m : Int)).toNat = m := by
    show (BitVec.ofInt 64 (m : Int)).toNat = m
    rw [BitVec.toNat_ofInt]
    omega
  have e2 : (BitVec.ofInt IntKind.i64.bits page).toNat = (page % 18446744073709551616).toNat := by
    show (BitVec.ofInt 64 page).toNat = _
    rw [BitVec.toNat_ofInt]
    rfl
  have e3 : (BitVec.ofInt IntKind.i64.bits page &&& ~~~ BitVec.ofInt IntKind.i64.bits (m : Int)).toNat = (page % 18446744073709551616).toNat &&& (18446744073709551615 - m) := by
    rw [BitVec.toNat_and, BitVec.toNat_not, e1, e2]
    rfl
  show IntKind.i64.wrap ((BitVec.ofInt IntKind.i64.bits page &&& ~~~ BitVec.ofInt IntKind.i64.bits (m : Int)).toNat : Int) = _
  rw [e3]
theorem andnot_0 (page : Int) (h0 : -9223372036854775808 ≤ page) (h1 : page < 9223372036854775808) : bits .andNot .i64 page 0 = page - page % 1 := by
  have h := andnot page 0 (by omega)
  rw [show (18446744073709551615 - 0 : Nat) = 18446744073709551615 from rfl, show ((page % 18446744073709551616).toNat &&& 18446744073709551615) = (page % 18446744073709551616).toNat % 18446744073709551616 from Nat.and_two_pow_sub_one_eq_mod _ 64, IntKind.wrap_i64] at h
  refine h.trans ?_
  omega
theorem andnot_1 (page : Int) (h0 : -9223372036854775808 ≤ page) (h1 : page < 9223372036854775808) : bits .andNot .i64 page 1 = page - page % 2 := by
  have h := andnot page 1 (by omega)
  rw [show (18446744073709551615 - 1 : Nat) = 18446744073709551614 from rfl, nat_hi64_1, IntKind.wrap_i64] at h
  refine h.trans ?_
  omega
theorem andnot_2 (page : Int) (h0 : -9223372036854775808 ≤ page) (h1 : page < 9223372036854775808) : bits .andNot .i64 page 3 = page - page % 4 := by
  have h := andnot page 3 (by omega)
  rw [show (18446744073709551615 - 3 : Nat) = 18446744073709551612 from rfl, nat_hi64_2, IntKind.wrap_i64] at h
  refine h.trans ?_
  omega
theorem andnot_3 (page : Int) (h0 : -9223372036854775808 ≤ page) (h1 : page < 9223372036854775808) : bits .andNot .i64 page 7 = page - page % 8 := by
  have h := andnot page 7 (by omega)
  rw [show (18446744073709551615 - 7 : Nat) = 18446744073709551608 from rfl, nat_hi64_3, IntKind.wrap_i64] at h
  refine h.trans ?_
  omega
theorem andnot_4 (page : Int) (h0 : -9223372036854775808 ≤ page) (h1 : page < 9223372036854775808) : bits .andNot .i64 page 15 = page - page % 16 := by
  have h := andnot page 15 (by omega)
  rw [show (18446744073709551615 - 15 : Nat) = 18446744073709551600 from rfl, nat_hi64_4, IntKind.wrap_i64] at h
  refine h.trans ?_
  omega
theorem andnot_5 (page : Int) (h0 : -9223372036854775808 ≤ page) (h1 : page < 9223372036854775808) : bits .andNot .i64 page 31 = page - page % 32 := by
  have h := andnot page 31 (by omega)
  rw [show (18446744073709551615 - 31 : Nat) = 18446744073709551584 from rfl, nat_hi64_5, IntKind.wrap_i64] at h
  refine h.trans ?_
  omega
theorem andnot_6 (page : Int) (h0 : -9223372036854775808 ≤ page) (h1 : page < 9223372036854775808) : bits .andNot .i64 page 63 = page - page % 64 := by
  have h := andnot page 63 (by omega)
  rw [show (18446744073709551615 - 63 : Nat) = 18446744073709551552 from rfl, nat_hi64_6, IntKind.wrap_i64] at h
  refine h.trans ?_
  omega
theorem andnot_7 (page : Int) (h0 : -9223372036854775808 ≤ page) (h1 : page < 9223372036854775808) : bits .andNot .i64 page 127 = page - page % 128 := by
  have h := andnot page 127 (by omega)
  rw [show (18446744073709551615 - 127 : Nat) = 18446744073709551488 from rfl, nat_hi64_7, IntKind.wrap_i64] at h
  refine h.trans ?_
  omega
theorem andnot_8 (page : Int) (h0 : -9223372036854775808 ≤ page) (h1 : page < 9223372036854775808) : bits .andNot .i64 page 255 = page - page % 256 := by
  have h := andnot page 255 (by omega)
  rw [show (18446744073709551615 - 255 : Nat) = 18446744073709551360 from rfl, nat_hi64_8, IntKind.wrap_i64] at h
  refine h.trans ?_
  omega
theorem andnot_two (page n : Int) (h0 : -9223372036854775808 ≤ page) (h1 : page < 9223372036854775808) (hn : 0 ≤ n ∧ n ≤ 8) : bits .andNot .i64 page (wrap64 (wrap64 (2 ^ n.toNat) - 1)) = page - page % two n := by
  have hc : n = 0 ∨ n = 1 ∨ n = 2 ∨ n = 3 ∨ n = 4 ∨ n = 5 ∨ n = 6 ∨ n = 7 ∨ n = 8 := by omega
  rcases hc with rfl | rfl | rfl | rfl | rfl | rfl | rfl | rfl | rfl
  · rw [show wrap64 (wrap64 (2 ^ Int.toNat 0) - 1) = 0 from by unfold wrap64; rfl]; exact andnot_0 page h0 h1
  · rw [show wrap64 (wrap64 (2 ^ Int.toNat 1) - 1) = 1 from by unfold wrap64; rfl]; exact andnot_1 page h0 h1
  · rw [show wrap64 (wrap64 (2 ^ Int.toNat 2) - 1) = 3 from by unfold wrap64; rfl]; exact andnot_2 page h0 h1
  · rw [show wrap64 (wrap64 (2 ^ Int.toNat 3) - 1) = 7 from by unfold wrap64; rfl]; exact andnot_3 page h0 h1
  · rw [show wrap64 (wrap64 (2 ^ Int.toNat 4) - 1) = 15 from by unfold wrap64; rfl]; exact andnot_4 page h0 h1
  · rw [show wrap64 (wrap64 (2 ^ Int.toNat 5) - 1) = 31 from by unfold wrap64; rfl]; exact andnot_5 page h0 h1
  · rw [show wrap64 (wrap64 (2 ^ Int.toNat 6) - 1) = 63 from by unfold wrap64; rfl]; exact andnot_6 page h0 h1
  · rw [show wrap64 (wrap64 (2 ^ Int.toNat 7) - 1) = 127 from by unfold wrap64; rfl]; exact andnot_7 page h0 h1
  · rw [show wrap64 (wrap64 (2 ^ Int.toNat 8) - 1) = 255 from by unfold wrap64; rfl]; exact andnot_8 page h0 h1
set_option maxHeartbeats 1000000 in
theorem down_any (page n : Int) (w : World) (h0 : -9223372036854775808 ≤ page) (h1 : page < 9223372036854775808) : Calls Try.prog 46 #[.int .i64 page, .int .i64 n] w fun e w' => e = .returned (.int .i64 (dwn page n)) ∧ w = w' := by
  by_cases hn : 0 ≤ n ∧ n ≤ 8
  · have ho : ord n = true := by simp [ord, hn]
    have hd : dwn page n = page - page % two n := by unfold dwn; rw [if_pos ho]
    have HD := Lib.hid hd
    have HA := Lib.hid (andnot_two page n h0 h1 hn)
    clear hd
    go_enter Try.func46, Try.ntmps46
    go_wp2_with fail
    refine (order_any _ _).mono ?_
    rintro e w1 ⟨rfl, rfl⟩
    go_wp2
    go_ret
    exact ⟨by rw [HD.out, ← HA.out]; rfl, rfl⟩
  · have ho : ord n = false := by simp [ord]; omega
    have hd : dwn page n = page := by unfold dwn; rw [if_neg (by rw [ho]; decide)]
    rw [hd]
    clear hd
    go_enter Try.func46, Try.ntmps46
    go_wp2_with (go_at_call 54; refine (order_any _ _).mono ?_; rintro e w1 ⟨rfl, rfl⟩)
    go_ret
    exact ⟨rfl, rfl⟩
def evn (page n : Int) : Bool := ord n && (page % two n == 0)
theorem evn_dwn (page n : Int) (h : ord n = true) : (dwn page n == page) = (page % two n == 0) := by
  rw [Bool.eq_iff_iff]
  simp only [beq_iff_eq]
  unfold dwn
  rw [if_pos h]
  omega
set_option maxHeartbeats 1000000 in
theorem even_any (page n : Int) (w : World) (h0 : -9223372036854775808 ≤ page) (h1 : page < 9223372036854775808) : Calls Try.prog 44 #[.int .i64 page, .int .i64 n] w fun e w' => e = .returned (.bool (evn page n)) ∧ w = w' := by
  by_cases hn : 0 ≤ n ∧ n ≤ 8
  · have ho : ord n = true := by simp [ord, hn]
    have hd : evn page n = (dwn page n == page) := by rw [evn_dwn page n ho]; simp [evn, ho]
    rw [hd]
    clear hd
    go_enter Try.func44, Try.ntmps44
    go_wp2_with (first | (go_at_call 54; refine (order_any _ _).mono ?_; rintro e w1 ⟨rfl, rfl⟩) | (go_at_call 46; refine (down_any _ _ _ h0 h1).mono ?_; rintro e w1 ⟨rfl, rfl⟩))
    go_ret
    exact ⟨rfl, rfl⟩
  · have ho : ord n = false := by simp [ord]; omega
    have hd : evn page n = false := by simp [evn, ho]
    rw [hd]
    clear hd
    go_enter Try.func44, Try.ntmps44
    go_wp2_with (go_at_call 54; refine (order_any _ _).mono ?_; rintro e w1 ⟨rfl, rfl⟩)
    go_ret
    exact ⟨rfl, rfl⟩
end G
end Go.Proofs.Ytdnnfoojdfmajaa
