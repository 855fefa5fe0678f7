/- Parts of the proofs of layer 7 (walk): contracts of its functions, and the laws' walks. -/
import Derived.Test.YtfolbfacnlhlmaaProg
import Derived.WalkKit
import Derived.WalkSpells
import Derived.WalkLawsBesides
import Derived.BigQuiet
import Derived.Deep.QuietTactic
import Derived.Lib.Hide
import Derived.Deep.RegionHeld3
import Derived.Deep.DeepCutAuto
import Derived.KernelRfl
import Derived.Deep.OwnRows
import Derived.Laws.CopyOwn
import Derived.Laws.CopyRow
import Derived.StillTailTactics
import Derived.Deep.RegionLaw

namespace Go.Proofs.Ytfolbfacnlhlmaa
open Go.RowKit
set_option linter.unusedVariables false
set_option linter.unusedSimpArgs false

theorem bcell {W w1 : World} (hb : Below W.heap.size W w1) : (∀ b o, b < W.heap.size → w1.cell? ⟨b, o, none⟩ = W.cell? ⟨b, o, none⟩) ∧ (∀ b o, b < W.heap.size → w1.frozen? ⟨b, o, none⟩ = W.frozen? ⟨b, o, none⟩) :=
  ⟨fun b o h => hb.cell (p := ⟨b, o, none⟩) h, fun b o h => hb.frozen (p := ⟨b, o, none⟩) h⟩
theorem bnext {w w1 w2 : World} (h : Below w.heap.size w w1) (k : Below w1.heap.size w1 w2) : Below w.heap.size w w2 := h.trans (k.mono h.size)
theorem below_drewN {B : Nat} {a w : World} (h : Below B a w) (n : Nat) : Below B a (w.drewN n) := ⟨h.os, h.tape, h.output, h.size, h.block⟩
/-- w' is w, but for block B. -/
def One (B : Nat) (w w' : World) : Prop := w'.os = w.os ∧ w'.tape = w.tape ∧ w'.output = w.output ∧ w'.heap.size = w.heap.size ∧ ∀ b, b ≠ B → w'.heap[b]? = w.heap[b]?
theorem One.refl (B : Nat) (w : World) : One B w w := ⟨rfl, rfl, rfl, rfl, fun _ _ => rfl⟩
theorem One.trans {B : Nat} {a b c : World} (h : One B a b) (k : One B b c) : One B a c := ⟨k.1.trans h.1, k.2.1.trans h.2.1, k.2.2.1.trans h.2.2.1, k.2.2.2.1.trans h.2.2.2.1, fun x hx => (k.2.2.2.2 x hx).trans (h.2.2.2.2 x hx)⟩
theorem One.setCell (w : World) (B i : Nat) (v : Value) : One B w (w.setCell ⟨B, i, none⟩ v) := ⟨rfl, rfl, rfl, by simp, fun b hb => Below.heap_setCell _ _ _ _ hb⟩
theorem One.drewN {B : Nat} {a b : World} (h : One B a b) (n : Nat) : One B a (b.drewN n) := h
theorem One.below {B C : Nat} {w w' : World} (h : One B w w') (hc : C ≤ B) : Below C w w' := ⟨h.1, h.2.1, h.2.2.1, Nat.le_of_eq h.2.2.2.1.symm, fun k hk => h.2.2.2.2 k (by omega)⟩
/-- A memory: the struct's block g, the bytes' block b, n bytes. -/
def Mem (w : World) (g b n : Nat) (f : Nat → Int) : Prop :=
  w.heap[g]? = some (.cells #[.slice (some ⟨b, 0, none⟩) n n] 71 (0, 0)) ∧ w.rowIs b 5 n (fun i => .int .u8 (f i)) ∧ g ≠ b ∧ 512 ≤ n ∧ n ≤ 65536 ∧ n % 64 = 0 ∧ ∀ i, 0 ≤ f i ∧ f i ≤ 255
theorem Mem.of_blocks {w w' : World} {g b n : Nat} {f : Nat → Int} (h : Mem w g b n f) (hg : w'.heap[g]? = w.heap[g]?) (hb : w'.heap[b]? = w.heap[b]?) : Mem w' g b n f :=
  ⟨hg.trans h.1, h.2.1.of_block hb, h.2.2⟩
theorem Mem.drewN {w : World} {g b n : Nat} {f : Nat → Int} (h : Mem w g b n f) (k : Nat) : Mem (w.drewN k) g b n f := h
theorem Mem.lt {w : World} {g b n : Nat} {f : Nat → Int} (h : Mem w g b n f) : g < w.heap.size ∧ b < w.heap.size := ⟨lt_of_block h.1, h.2.1.lt⟩
theorem Mem.below {w w' : World} {g b n : Nat} {f : Nat → Int} (h : Mem w g b n f) (hb : Below w.heap.size w w') : Mem w' g b n f := h.of_blocks (hb.block g h.lt.1) (hb.block b h.lt.2)
/-- What is wrong with an address. -/
def wrg (n : Nat) (at_ even : Int) : Int := if at_ < 0 then 3 else if (n : Int) ≤ at_ then 3 else if at_ % even = 0 then 0 else 4
set_option maxHeartbeats 1000000 in
theorem wrong_any (g b n : Nat) (f : Nat → Int) (at_ even : Int) (w : World) (h : Mem w g b n f) (he : 1 ≤ even) : Calls Try.prog 28 #[.pointer (some ⟨g, 0, none⟩), .int .i64 at_, .int .i64 even] w fun e w' => e = .returned (.int .i64 (wrg n at_ even)) ∧ w = w' := by
  obtain ⟨hg, hrow, hgb, hn0, hn1, hn2, hf⟩ := h
  have c0 := cell_of_one hg
  clear hg hrow hf
  have hk : (even == 0) = false := by rw [beq_eq_false_iff_ne]; omega
  go_enter Try.func28, Try.ntmps28
  go_wp2
  all_goals
    go_ret
    exact ⟨by first | (simp [wrg, *]; done) | (simp [wrg, *]; omega) | (simp_all [wrg]; done) | (simp_all [wrg]; omega) | (go_show; sorry), rfl⟩
theorem wrong_nil (at_ even : Int) (w : World) : Calls Try.prog 28 #[.pointer none, .int .i64 at_, .int .i64 even] w fun e w' => e = .returned (.int .i64 1) ∧ w = w' := by
  go_enter Try.func28, Try.ntmps28
  go_wp2
  go_ret
  exact ⟨rfl, rfl⟩
theorem wrg_ok {n : Nat} {at_ even : Int} (h0 : 0 ≤ at_) (h1 : at_ < n) (h2 : at_ % even = 0) : wrg n at_ even = 0 := by unfold wrg; rw [if_neg (by omega), if_neg (by omega), if_pos h2]
theorem wrg_no {n : Nat} {at_ even : Int} (h : wrg n at_ even = 0) : 0 ≤ at_ ∧ at_ < n ∧ at_ % even = 0 := by
  unfold wrg at h
  split at h
  · cases h
  · split at h
    · cases h
    · split at h
      · omega
      · cases h
set_option maxHeartbeats 1000000 in
theorem load_no (g b n : Nat) (f : Nat → Int) (at_ : Int) (w : World) (h : Mem w g b n f) (hw : wrg n at_ 8 ≠ 0) : Calls Try.prog 22 #[.pointer (some ⟨g, 0, none⟩), .int .i64 at_] w fun e w' => e = .returned (.tuple #[.int .u64 0, .int .i64 (wrg n at_ 8)]) ∧ w = w' := by
  have k0 : (wrg n at_ 8 != 0) = true := by rw [bne_iff_ne]; exact hw
  have H := Lib.hid h
  clear h hw
  go_enter Try.func22, Try.ntmps22
  go_wp2_with fail
  refine (wrong_any g b n f at_ 8 _ H.out (by omega)).mono ?_
  rintro e w1 ⟨rfl, rfl⟩
  go_wp2
  go_ret2
  exact ⟨rfl, rfl⟩
set_option maxHeartbeats 1000000 in
theorem store_no (g b n : Nat) (f : Nat → Int) (at_ x : Int) (w : World) (h : Mem w g b n f) (hw : wrg n at_ 8 ≠ 0) : Calls Try.prog 17 #[.pointer (some ⟨g, 0, none⟩), .int .i64 at_, .int .u64 x] w fun e w' => e = .returned (.int .i64 (wrg n at_ 8)) ∧ w = w' := by
  have k0 : (wrg n at_ 8 != 0) = true := by rw [bne_iff_ne]; exact hw
  have H := Lib.hid h
  clear h hw
  go_enter Try.func17, Try.ntmps17
  go_wp2_with fail
  refine (wrong_any g b n f at_ 8 _ H.out (by omega)).mono ?_
  rintro e w1 ⟨rfl, rfl⟩
  go_wp2
  go_ret
  exact ⟨rfl, rfl⟩
theorem frames_any (g b n : Nat) (f : Nat → Int) (w : World) (h : Mem w g b n f) : Calls Try.prog 21 #[.pointer (some ⟨g, 0, none⟩)] w fun e w' => e = .returned (.int .i64 (n / 64)) ∧ w = w' := by
  have c0 := cell_of_one h.1
  have hn : n ≤ 65536 := h.2.2.2.2.1
  clear h
  go_enter Try.func21, Try.ntmps21
  go_wp2
  go_ret
  exact ⟨rfl, rfl⟩
/-- The word that eight bytes are, the lowest first. -/
def wd (f : Nat → Int) (k : Nat) : Int := f k + f (k + 1) * 256 + f (k + 2) * 65536 + f (k + 3) * 16777216 + f (k + 4) * 4294967296 + f (k + 5) * 1099511627776 + f (k + 6) * 281474976710656 + f (k + 7) * 72057594037927936
theorem or_up (a x : Int) (s m : Nat) (hm : m = 2 ^ s) (hs : s ≤ 56) (ha : 0 ≤ a ∧ a < m) (hx : 0 ≤ x ∧ x ≤ 255) : bits BinOp.or IntKind.u64 a (x * m) = a + x * m := by
  obtain ⟨A, rfl⟩ := Int.eq_ofNat_of_zero_le ha.1
  obtain ⟨X, rfl⟩ := Int.eq_ofNat_of_zero_le hx.1
  have h1 : m ≤ 72057594037927936 := by rw [hm]; exact Nat.pow_le_pow_right (by omega) hs
  have hX : X ≤ 255 := by omega
  have h2 : X * m ≤ 255 * 72057594037927936 := Nat.mul_le_mul hX h1
  have h3 : ((X : Int) * (m : Int)) = ((X * m : Nat) : Int) := by simp
  rw [h3, u64_or_nat A (X * m) (by omega) (by omega)]
  have h4 : X <<< s + A = X <<< s ||| A := Nat.shiftLeft_add_eq_or_of_lt (by omega) X
  rw [Nat.shiftLeft_eq, ← hm] at h4
  rw [Nat.or_comm, ← h4]
  omega
theorem or_chain (x0 x1 x2 x3 x4 x5 x6 x7 : Int) (b0 : 0 ≤ x0 ∧ x0 ≤ 255) (b1 : 0 ≤ x1 ∧ x1 ≤ 255) (b2 : 0 ≤ x2 ∧ x2 ≤ 255) (b3 : 0 ≤ x3 ∧ x3 ≤ 255) (b4 : 0 ≤ x4 ∧ x4 ≤ 255) (b5 : 0 ≤ x5 ∧ x5 ≤ 255) (b6 : 0 ≤ x6 ∧ x6 ≤ 255) (b7 : 0 ≤ x7 ∧ x7 ≤ 255) :
    bits BinOp.or IntKind.u64 (bits BinOp.or IntKind.u64 (bits BinOp.or IntKind.u64 (bits BinOp.or IntKind.u64 (bits BinOp.or IntKind.u64 (bits BinOp.or IntKind.u64 (bits BinOp.or IntKind.u64 (bits BinOp.or IntKind.u64 0 x0) (x1 * 256)) (x2 * 65536)) (x3 * 16777216)) (x4 * 4294967296)) (x5 * 1099511627776)) (x6 * 281474976710656)) (x7 * 72057594037927936) =
      x0 + x1 * 256 + x2 * 65536 + x3 * 16777216 + x4 * 4294967296 + x5 * 1099511627776 + x6 * 281474976710656 + x7 * 72057594037927936 := by
  have e0 : bits BinOp.or IntKind.u64 0 x0 = x0 := by
    have h := or_up 0 x0 0 1 rfl (by omega) (by omega) b0
    rw [show x0 * ((1 : Nat) : Int) = x0 from by simp] at h
    omega
  rw [e0]
  rw [show (x1 * 256 : Int) = x1 * ((256 : Nat) : Int) from rfl, or_up x0 x1 8 256 rfl (by omega) (by omega) b1]
  rw [show (x2 * 65536 : Int) = x2 * ((65536 : Nat) : Int) from rfl, or_up _ x2 16 65536 rfl (by omega) (by omega) b2]
  rw [show (x3 * 16777216 : Int) = x3 * ((16777216 : Nat) : Int) from rfl, or_up _ x3 24 16777216 rfl (by omega) (by omega) b3]
  rw [show (x4 * 4294967296 : Int) = x4 * ((4294967296 : Nat) : Int) from rfl, or_up _ x4 32 4294967296 rfl (by omega) (by omega) b4]
  rw [show (x5 * 1099511627776 : Int) = x5 * ((1099511627776 : Nat) : Int) from rfl, or_up _ x5 40 1099511627776 rfl (by omega) (by omega) b5]
  rw [show (x6 * 281474976710656 : Int) = x6 * ((281474976710656 : Nat) : Int) from rfl, or_up _ x6 48 281474976710656 rfl (by omega) (by omega) b6]
  rw [show (x7 * 72057594037927936 : Int) = x7 * ((72057594037927936 : Nat) : Int) from rfl, or_up _ x7 56 72057594037927936 rfl (by omega) (by omega) b7]
set_option maxHeartbeats 2000000 in
theorem load_any (g b n : Nat) (f : Nat → Int) (k : Nat) (w : World) (h : Mem w g b n f) (h0 : k % 8 = 0) (h1 : k < n) : Calls Try.prog 22 #[.pointer (some ⟨g, 0, none⟩), .int .i64 k] w fun e w' => e = .returned (.tuple #[.int .u64 (wd f k), .int .i64 0]) ∧ w = w' := by
  unfold wd
  have hn : n ≤ 65536 := h.2.2.2.2.1
  have hn64 : n % 64 = 0 := h.2.2.2.2.2.1
  have HW := Lib.hid (wrg_ok (n := n) (at_ := k) (even := 8) (by omega) (by omega) (by omega))
  have c0 := cell_of_one h.1
  have hk : k + 7 < n := by omega
  have hc : ∀ i, i < 8 → w.cell? ⟨b, k + i, none⟩ = some (.int .u8 (f (k + i))) := fun i hi => h.2.1.cell (by omega)
  have d0 := hc 0 (by omega)
  have d1 := hc 1 (by omega)
  have d2 := hc 2 (by omega)
  have d3 := hc 3 (by omega)
  have d4 := hc 4 (by omega)
  have d5 := hc 5 (by omega)
  have d6 := hc 6 (by omega)
  have d7 := hc 7 (by omega)
  rw [Nat.add_zero] at d0
  have hf := h.2.2.2.2.2.2
  have b0 := hf k
  have b1 := hf (k + 1)
  have b2 := hf (k + 2)
  have b3 := hf (k + 3)
  have b4 := hf (k + 4)
  have b5 := hf (k + 5)
  have b6 := hf (k + 6)
  have b7 := hf (k + 7)
  clear hf hc
  generalize f k = x0 at *
  generalize f (k + 1) = x1 at *
  generalize f (k + 2) = x2 at *
  generalize f (k + 3) = x3 at *
  generalize f (k + 4) = x4 at *
  generalize f (k + 5) = x5 at *
  generalize f (k + 6) = x6 at *
  generalize f (k + 7) = x7 at *
  have H := Lib.hid h
  clear h
  go_enter Try.func22, Try.ntmps22
  go_wp2_with fail
  refine (wrong_any g b n f k 8 _ H.out (by omega)).mono ?_
  rintro e w1 ⟨rfl, rfl⟩
  rw [HW.out]
  go_wp2
  refine wp_loop_rounds 9 ?_
  iterate 9 (rw [rounds_succ]; go_wp2)
  go_ret2
  have z := or_chain x0 x1 x2 x3 x4 x5 x6 x7 b0 b1 b2 b3 b4 b5 b6 b7
  exact ⟨by rw [← z] <;> rfl, rfl⟩

end Go.Proofs.Ytfolbfacnlhlmaa
