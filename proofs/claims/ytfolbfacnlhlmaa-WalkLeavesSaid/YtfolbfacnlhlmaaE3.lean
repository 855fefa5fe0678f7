/- Parts of the proofs of layer 7 (walk): contracts of its functions, and the laws' walks. -/
import Derived.Test.YtfolbfacnlhlmaaProg
import Derived.WalkKit
import Derived.WalkSpells
import Derived.WalkLawsBesides
import Derived.BigQuiet
import Derived.Deep.QuietTactic
import Derived.Lib.Hide
import Derived.Deep.RegionHeld3
import Derived.Deep.DeepCutAuto
import Derived.KernelRfl
import Derived.Deep.OwnRows
import Derived.Laws.CopyOwn
import Derived.Laws.CopyRow
import Derived.StillTailTactics
import Derived.Deep.RegionLaw
import Derived.Test.YtfolbfacnlhlmaaE2
namespace Go.Proofs.Ytfolbfacnlhlmaa
open Go.RowKit
set_option linter.unusedVariables false
set_option linter.unusedSimpArgs false
namespace E

theorem One.cells {B : Nat} {w w' : World} (h : One B w w') : (∀ b o, b ≠ B → w'.cell? ⟨b, o, none⟩ = w.cell? ⟨b, o, none⟩) ∧ (∀ b o, b ≠ B → w'.frozen? ⟨b, o, none⟩ = w.frozen? ⟨b, o, none⟩) :=
  ⟨fun b o hb => World.cell?_of_block (w := w) (h.2.2.2.2 b hb), fun b o hb => World.frozen?_of_block (w := w) (h.2.2.2.2 b hb)⟩
theorem One.below {B C : Nat} {w w' : World} (h : One B w w') (hc : C ≤ B) : Below C w w' :=
  ⟨h.1, h.2.1, h.2.2.1, Nat.le_of_eq h.2.2.2.1.symm, fun k hk => h.2.2.2.2 k (by omega)⟩
theorem or_add (x k : Nat) (h : x % 2 ^ (k + 1) < 2 ^ k) : x ||| 2 ^ k = x + 2 ^ k := by
  obtain ⟨hi, lo, hx, hlo⟩ : ∃ hi lo, x = hi <<< (k + 1) + lo ∧ lo < 2 ^ k :=
    ⟨x / 2 ^ (k + 1), x % 2 ^ (k + 1), by rw [Nat.shiftLeft_eq, Nat.mul_comm]; exact (Nat.div_add_mod _ _).symm, h⟩
  have hp : (2 : Nat) ^ (k + 1) = 2 ^ k + 2 ^ k := by rw [Nat.pow_succ]; omega
  have h1 : hi <<< (k + 1) + lo = hi <<< (k + 1) ||| lo := Nat.shiftLeft_add_eq_or_of_lt (by omega) hi
  have h2 : hi <<< (k + 1) + (2 ^ k + lo) = hi <<< (k + 1) ||| (2 ^ k + lo) := Nat.shiftLeft_add_eq_or_of_lt (by omega) hi
  have h3 : 1 <<< k + lo = 1 <<< k ||| lo := Nat.shiftLeft_add_eq_or_of_lt hlo 1
  rw [Nat.shiftLeft_eq, Nat.one_mul] at h3
  subst hx
  rw [h1, show hi <<< (k + 1) ||| lo = hi <<< (k + 1) + lo from h1.symm, Nat.add_assoc, Nat.add_comm lo (2 ^ k), h2, h3, h1, Nat.or_assoc, Nat.or_comm lo]
theorem orw_add (iz : Bool) (x : Int) (k : Nat) (hk : k < 64) (h0 : 0 ≤ x) (h1 : x < 18446744073709551616) (h : x.toNat % 2 ^ (k + 1) < 2 ^ k) : orw iz x (IntKind.u64.wrap (2 ^ k)) = x + b2 iz (2 ^ k : Nat) := by
  unfold orw b2
  cases iz
  · simp
  · have hp : (2 : Nat) ^ k < 18446744073709551616 := Nat.pow_lt_pow_right (by omega) hk
    have e : IntKind.u64.wrap (2 ^ k) = ((2 ^ k : Nat) : Int) := by
      have h2 : ((2 : Int) ^ k) = ((2 ^ k : Nat) : Int) := by simp
      rw [h2]
      generalize (2 : Nat) ^ k = n at hp
      simp [IntKind.wrap, IntKind.bits, IntKind.signed]
      omega
    obtain ⟨n, rfl⟩ := Int.eq_ofNat_of_zero_le h0
    simp only [if_true]
    rw [e, u64_or_nat n (2 ^ k) (by omega) hp, or_add n k (by simpa using h)]
    omega
theorem orw_chain (fr : Int) (p wr hu he us di : Bool) (h0 : 0 ≤ fr) (h1 : fr < 1048576) :
    orw he (orw hu (orw di (orw us (orw wr (orw p (fr * 4096) (IntKind.u64.wrap (2 ^ (0 : Int).toNat))) (IntKind.u64.wrap (2 ^ (1 : Int).toNat))) (IntKind.u64.wrap (2 ^ (5 : Int).toNat))) (IntKind.u64.wrap (2 ^ (6 : Int).toNat))) (IntKind.u64.wrap (2 ^ (7 : Int).toNat))) (IntKind.u64.wrap (2 ^ (9 : Int).toNat)) = pk fr p wr hu he us di := by
  have t0 : (0 : Int).toNat = 0 := rfl
  have t1 : (1 : Int).toNat = 1 := rfl
  have t5 : (5 : Int).toNat = 5 := rfl
  have t6 : (6 : Int).toNat = 6 := rfl
  have t7 : (7 : Int).toNat = 7 := rfl
  have t9 : (9 : Int).toNat = 9 := rfl
  rw [t0, t1, t5, t6, t7, t9]
  have d : ∀ (b : Bool) (y : Int), b2 b y = 0 ∨ b2 b y = y := fun b y => by cases b <;> simp [b2]
  have d0 := d p 1
  have d1 := d wr 2
  have d5 := d us 32
  have d6 := d di 64
  have d7 := d hu 128
  rw [orw_add p _ 0 (by omega) (by omega) (by omega) (by omega)]
  rw [show b2 p ((2 ^ 0 : Nat) : Int) = b2 p 1 from rfl, orw_add wr _ 1 (by omega) (by omega) (by omega) (by omega)]
  rw [show b2 wr ((2 ^ 1 : Nat) : Int) = b2 wr 2 from rfl, orw_add us _ 5 (by omega) (by omega) (by omega) (by omega)]
  rw [show b2 us ((2 ^ 5 : Nat) : Int) = b2 us 32 from rfl, orw_add di _ 6 (by omega) (by omega) (by omega) (by omega)]
  rw [show b2 di ((2 ^ 6 : Nat) : Int) = b2 di 64 from rfl, orw_add hu _ 7 (by omega) (by omega) (by omega) (by omega)]
  rw [show b2 hu ((2 ^ 7 : Nat) : Int) = b2 hu 128 from rfl, orw_add he _ 9 (by omega) (by omega) (by omega) (by omega)]
  rw [show b2 he ((2 ^ 9 : Nat) : Int) = b2 he 512 from rfl]
  unfold pk
  omega
set_option maxHeartbeats 1000000 in
theorem pack_any (fr : Int) (p wr hu he us di : Bool) (w : World) :
    Calls Try.prog 27 #[.agg #[.int .i64 fr, .bool p, .bool wr, .bool hu, .bool he, .bool us, .bool di]] w fun e w' => e = .returned (.tuple #[.int .u64 (pkw fr p wr hu he us di), .int .i64 (chk fr p wr hu he us di)]) ∧ Below w.heap.size w w' := by
  by_cases hk : chk fr p wr hu he us di = 0
  · have hr := chk_range fr p wr hu he us di hk
    obtain ⟨h0, h1⟩ := hr
    have hp : pkw fr p wr hu he us di = pk fr p wr hu he us di := by unfold pkw; rw [if_pos hk]
    rw [hp, hk]
    clear hp
    have HK := Lib.hid hk
    clear hk
    go_enter Try.func27, Try.ntmps27
    go_wp2_with fail
    refine (check_any _ _ _ _ _ _ _ _).mono ?_
    rintro e w1 ⟨rfl, hb⟩
    rw [HK.out]
    obtain ⟨hc, hf⟩ := bcell hb
    have hz : w.heap.size < w1.heap.size := by have := hb.size; simp at this; omega
    have hne : w.heap.size ≠ w1.heap.size := by omega
    go_wp2_with fail
    refine (put_any _ _ _ _ _ (by omega) (by omega) (heap_alloc_new _ _)).mono ?_
    rintro e v0 ⟨rfl, H, h⟩
    obtain ⟨c0, f0⟩ := h.cells
    have H0 := Lib.hid H
    have O0 := Lib.hid h
    clear H h
    go_wp2_with fail
    refine (put_any _ _ _ _ _ (by omega) (by omega) H0.out).mono ?_
    rintro e v1 ⟨rfl, H, h⟩
    obtain ⟨c1, f1⟩ := h.cells
    have H1 := Lib.hid H
    have O1 := Lib.hid h
    clear H h
    go_wp2_with fail
    refine (put_any _ _ _ _ _ (by omega) (by omega) H1.out).mono ?_
    rintro e v2 ⟨rfl, H, h⟩
    obtain ⟨c2, f2⟩ := h.cells
    have H2 := Lib.hid H
    have O2 := Lib.hid h
    clear H h
    go_wp2_with fail
    refine (put_any _ _ _ _ _ (by omega) (by omega) H2.out).mono ?_
    rintro e v3 ⟨rfl, H, h⟩
    obtain ⟨c3, f3⟩ := h.cells
    have H3 := Lib.hid H
    have O3 := Lib.hid h
    clear H h
    go_wp2_with fail
    refine (put_any _ _ _ _ _ (by omega) (by omega) H3.out).mono ?_
    rintro e v4 ⟨rfl, H, h⟩
    obtain ⟨c4, f4⟩ := h.cells
    have H4 := Lib.hid H
    have O4 := Lib.hid h
    clear H h
    go_wp2_with fail
    refine (put_any _ _ _ _ _ (by omega) (by omega) H4.out).mono ?_
    rintro e v5 ⟨rfl, H, h⟩
    obtain ⟨c5, f5⟩ := h.cells
    have H5 := Lib.hid H
    have O5 := Lib.hid h
    clear H h
    have cl := cell_of_one H5.out
    go_wp2
    go_ret2
    have z5 := orw_chain fr p wr hu he us di h0 h1
    have y1 : Below w.heap.size w (w1.alloc (Obj.cells #[Value.int IntKind.u64 (fr * 4096)] 25)) := (((Below.refl _ _).alloc (Nat.le_refl _) _).trans (hb.mono (by simp))).alloc (by omega) _
    have hz' : w.heap.size ≤ w1.heap.size := by omega
    exact ⟨by rw [← z5]; rfl, (((((y1.trans (O0.out.below hz')).trans (O1.out.below hz')).trans (O2.out.below hz')).trans (O3.out.below hz')).trans (O4.out.below hz')).trans (O5.out.below hz')⟩
  · have hp : pkw fr p wr hu he us di = 0 := by unfold pkw; rw [if_neg hk]
    rw [hp]
    clear hp
    have hk' : (chk fr p wr hu he us di != 0) = true := by simpa using hk
    clear hk
    go_enter Try.func27, Try.ntmps27
    go_wp2_with (go_at_call 36; refine (check_any _ _ _ _ _ _ _ _).mono ?_; rintro e w1 ⟨rfl, hb⟩)
    all_goals
      go_ret2
      exact ⟨rfl, ((Below.refl _ _).alloc (Nat.le_refl _) _).trans (hb.mono (by simp))⟩

end E
end Go.Proofs.Ytfolbfacnlhlmaa
