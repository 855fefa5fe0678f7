/- Parts of the proofs of layer 1 (entries): contracts of its functions, and the laws' walks. -/
import Derived.Test.YtnbolfjijhbfbaaProg
import Derived.WalkKit
import Derived.WalkSpells
import Derived.WalkLawsBesides
import Derived.BigQuiet
import Derived.Deep.QuietTactic
import Derived.StillTailTactics
import Derived.Lib.Hide
import Derived.Deep.RegionHeld3
import Derived.Deep.DeepCutAuto
import Derived.KernelRfl
import Derived.Test.YtnbolfjijhbfbaaE5
import Derived.Test.YtnbolfjijhbfbaaE6
import Derived.Test.YtnbolfjijhbfbaaE7
import Derived.Test.YtnbolfjijhbfbaaE8
namespace Go.Proofs.Ytnbolfjijhbfbaa
open Go.RowKit
set_option linter.unusedVariables false
set_option linter.unusedSimpArgs false

theorem bnext {w w1 w2 : World} (h : Below w.heap.size w w1) (k : Below w1.heap.size w1 w2) : Below w.heap.size w w2 := h.trans (k.mono h.size)
theorem bnextA {w w1 w2 : World} {o : Obj} (h : Below w.heap.size w w1) (k : Below (w1.alloc o).heap.size (w1.alloc o) w2) : Below w.heap.size w w2 := bnext (h.alloc h.size o) k

set_option maxHeartbeats 4000000 in
theorem awake_any (w : World) : Calls Try.prog 11 #[] w fun e w' => e = .returned (.bool true) ∧ Below w.heap.size w w' := by
  have a1 : pkw 5 true true false false false false = 20483 := by decide
  have a2 : chk 5 true true false false false false = 0 := by decide
  have a3 : une 2 = 5 := by decide
  have a4 : unEnt 2 = .agg #[.int .i64 0, .bool false, .bool false, .bool false, .bool false, .bool false, .bool false] := ent_no (by decide)
  have a5 : alc 5 false false false true false false 1 = 0 := by decide
  have a6 : alx 5 false false false true false false 1 = .agg #[.int .i64 5, .bool true, .bool false, .bool false, .bool false, .bool false, .bool false] := alx_1 5 false false false true false false a5
  go_enter Try.func11, Try.ntmps11
  go_wp2_with (first
    | (go_at_call 9; refine (pack_any _ _ _ _ _ _ _ _).mono ?_; rintro e w1 ⟨rfl, hb1⟩)
    | (go_at_call 14; refine (unpack_any _ _ (by omega) (by omega)).mono ?_; rintro e w2 ⟨rfl, hb2⟩)
    | (go_at_call 16; refine (allow_any _ _ _ _ _ _ _ _ _).mono ?_; rintro e w3 ⟨rfl, hb3⟩))
  all_goals
    go_ret
    have z1 : w.heap.size ≤ w1.heap.size := hb1.size
    have z2 : w1.heap.size ≤ w2.heap.size := hb2.size
    have z3 := hb3.size
    simp at z3
    exact ⟨rfl, (((hb1.trans (hb2.mono z1)).alloc (by omega) _).trans (hb3.mono (by simp <;> omega))).alloc (by omega) _⟩
theorem ent_below {B : Nat} {fr : Int} {p wr hu he us di : Bool} {W w' : World} (h : B < W.heap.size ∧ W.cell? ⟨B, 0, none⟩ = some (.int .i64 fr) ∧ W.cell? ⟨B, 1, none⟩ = some (.bool p) ∧ W.cell? ⟨B, 2, none⟩ = some (.bool wr) ∧ W.cell? ⟨B, 3, none⟩ = some (.bool hu) ∧ W.cell? ⟨B, 4, none⟩ = some (.bool he) ∧ W.cell? ⟨B, 5, none⟩ = some (.bool us) ∧ W.cell? ⟨B, 6, none⟩ = some (.bool di)) (hb : Below W.heap.size W w') : B < w'.heap.size ∧ w'.cell? ⟨B, 0, none⟩ = some (.int .i64 fr) ∧ w'.cell? ⟨B, 1, none⟩ = some (.bool p) ∧ w'.cell? ⟨B, 2, none⟩ = some (.bool wr) ∧ w'.cell? ⟨B, 3, none⟩ = some (.bool hu) ∧ w'.cell? ⟨B, 4, none⟩ = some (.bool he) ∧ w'.cell? ⟨B, 5, none⟩ = some (.bool us) ∧ w'.cell? ⟨B, 6, none⟩ = some (.bool di) := by
  obtain ⟨h, h0, h1, h2, h3, h4, h5, h6⟩ := h
  obtain ⟨hc, _⟩ := bcell hb
  exact ⟨Nat.lt_of_lt_of_le h hb.size, (hc _ _ h).trans h0, (hc _ _ h).trans h1, (hc _ _ h).trans h2, (hc _ _ h).trans h3, (hc _ _ h).trans h4, (hc _ _ h).trans h5, (hc _ _ h).trans h6⟩
set_option maxHeartbeats 4000000 in
theorem packs_any (fr : Int) (p wr hu he us di : Bool) (w : World) : Calls Try.prog 3 #[.agg #[.int .i64 fr, .bool p, .bool wr, .bool hu, .bool he, .bool us, .bool di]] w fun e w' => e = .returned (.bool true) ∧ Below w.heap.size w w' := by
  go_enter Try.func3, Try.ntmps3
  go_upto_region 3 with (first
    | (go_at_call 9; refine (pack_any _ _ _ _ _ _ _ _).mono ?_; rintro e w1 ⟨rfl, hb1⟩; obtain ⟨hc1, hf1⟩ := bcell hb1; have hz1 : w.heap.size < w1.heap.size := (by have := hb1.size; simp at this; omega))
    | (go_at_call 10; refine (rpack_any _ _ _ _ _ _ _ _).mono ?_; rintro e w2 ⟨rfl, hb2⟩; obtain ⟨hc2, hf2⟩ := bcell hb2; have hz2 : w.heap.size < w2.heap.size := (by have := hb2.size; omega)))
  go_region_held3 (fun w' => w.heap.size < w'.heap.size ∧ w'.cell? ⟨w.heap.size, 0, none⟩ = some (.int .i64 fr) ∧ w'.cell? ⟨w.heap.size, 1, none⟩ = some (.bool p) ∧ w'.cell? ⟨w.heap.size, 2, none⟩ = some (.bool wr) ∧ w'.cell? ⟨w.heap.size, 3, none⟩ = some (.bool hu) ∧ w'.cell? ⟨w.heap.size, 4, none⟩ = some (.bool he) ∧ w'.cell? ⟨w.heap.size, 5, none⟩ = some (.bool us) ∧ w'.cell? ⟨w.heap.size, 6, none⟩ = some (.bool di)) (first | exact ent_below (by assumption) hba | exact ent_below (by assumption) hbb | exact ent_below (by assumption) hbd | go_keep)
    (first
      | (go_at_call 11; refine (awake_any _).mono ?_; rintro e wa ⟨rfl, hba⟩)
      | (go_at_call 12; refine (check_any _ _ _ _ _ _ _ _).mono ?_; rintro e wb ⟨rfl, hbb⟩)
      | (go_at_call 13; refine (rcheck_any _ _ _ _ _ _ _ _).mono ?_; rintro e wd ⟨rfl, hbd⟩))
  go_wp2
  go_ret
  exact ⟨rfl, bnext (bnext (bnext (Below.drew (bnext (bnextA (Below.refl _ _) hb1) hb2)) hba) hbb) hbd⟩

end Go.Proofs.Ytnbolfjijhbfbaa
