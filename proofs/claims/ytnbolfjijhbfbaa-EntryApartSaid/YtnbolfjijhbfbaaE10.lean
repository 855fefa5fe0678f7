/- Parts of the proofs of layer 1 (entries): contracts of its functions, and the laws' walks. -/
import Derived.Test.YtnbolfjijhbfbaaProg
import Derived.WalkKit
import Derived.WalkSpells
import Derived.WalkLawsBesides
import Derived.BigQuiet
import Derived.Deep.QuietTactic
import Derived.StillTailTactics
import Derived.Lib.Hide
import Derived.Deep.RegionHeld3
import Derived.Deep.DeepCutAuto
import Derived.KernelRfl
import Derived.Test.YtnbolfjijhbfbaaE9
namespace Go.Proofs.Ytnbolfjijhbfbaa
open Go.RowKit
set_option linter.unusedVariables false
set_option linter.unusedSimpArgs false

theorem seven_below {B : Nat} {v0 v1 v2 v3 v4 v5 v6 : Value} {W w' : World} (h : W.cell? ⟨B, 0, none⟩ = some v0 ∧ W.cell? ⟨B, 1, none⟩ = some v1 ∧ W.cell? ⟨B, 2, none⟩ = some v2 ∧ W.cell? ⟨B, 3, none⟩ = some v3 ∧ W.cell? ⟨B, 4, none⟩ = some v4 ∧ W.cell? ⟨B, 5, none⟩ = some v5 ∧ W.cell? ⟨B, 6, none⟩ = some v6) (hb : Below W.heap.size W w') : w'.cell? ⟨B, 0, none⟩ = some v0 ∧ w'.cell? ⟨B, 1, none⟩ = some v1 ∧ w'.cell? ⟨B, 2, none⟩ = some v2 ∧ w'.cell? ⟨B, 3, none⟩ = some v3 ∧ w'.cell? ⟨B, 4, none⟩ = some v4 ∧ w'.cell? ⟨B, 5, none⟩ = some v5 ∧ w'.cell? ⟨B, 6, none⟩ = some v6 := by
  have m : ∀ {a : Addr} {v : Value}, W.cell? a = some v → w'.cell? a = some v := fun h => (hb.cell (World.block_lt_of_cell? W _ h)).trans h
  exact ⟨m h.1, m h.2.1, m h.2.2.1, m h.2.2.2.1, m h.2.2.2.2.1, m h.2.2.2.2.2.1, m h.2.2.2.2.2.2⟩
theorem seven_alloc {B : Nat} {v0 v1 v2 v3 v4 v5 v6 : Value} {W : World} (o : Obj) (h : W.cell? ⟨B, 0, none⟩ = some v0 ∧ W.cell? ⟨B, 1, none⟩ = some v1 ∧ W.cell? ⟨B, 2, none⟩ = some v2 ∧ W.cell? ⟨B, 3, none⟩ = some v3 ∧ W.cell? ⟨B, 4, none⟩ = some v4 ∧ W.cell? ⟨B, 5, none⟩ = some v5 ∧ W.cell? ⟨B, 6, none⟩ = some v6) : (W.alloc o).cell? ⟨B, 0, none⟩ = some v0 ∧ (W.alloc o).cell? ⟨B, 1, none⟩ = some v1 ∧ (W.alloc o).cell? ⟨B, 2, none⟩ = some v2 ∧ (W.alloc o).cell? ⟨B, 3, none⟩ = some v3 ∧ (W.alloc o).cell? ⟨B, 4, none⟩ = some v4 ∧ (W.alloc o).cell? ⟨B, 5, none⟩ = some v5 ∧ (W.alloc o).cell? ⟨B, 6, none⟩ = some v6 :=
  seven_below h ((Below.refl _ _).alloc (Nat.le_refl _) o)
theorem seven_drew {B : Nat} {v0 v1 v2 v3 v4 v5 v6 : Value} {W : World} (h : W.cell? ⟨B, 0, none⟩ = some v0 ∧ W.cell? ⟨B, 1, none⟩ = some v1 ∧ W.cell? ⟨B, 2, none⟩ = some v2 ∧ W.cell? ⟨B, 3, none⟩ = some v3 ∧ W.cell? ⟨B, 4, none⟩ = some v4 ∧ W.cell? ⟨B, 5, none⟩ = some v5 ∧ W.cell? ⟨B, 6, none⟩ = some v6) : W.drew.cell? ⟨B, 0, none⟩ = some v0 ∧ W.drew.cell? ⟨B, 1, none⟩ = some v1 ∧ W.drew.cell? ⟨B, 2, none⟩ = some v2 ∧ W.drew.cell? ⟨B, 3, none⟩ = some v3 ∧ W.drew.cell? ⟨B, 4, none⟩ = some v4 ∧ W.drew.cell? ⟨B, 5, none⟩ = some v5 ∧ W.drew.cell? ⟨B, 6, none⟩ = some v6 := h
theorem seven_new {v0 v1 v2 v3 v4 v5 v6 : Value} {W : World} {t : TypeId} : (W.alloc (.cells #[v0, v1, v2, v3, v4, v5, v6] t)).cell? ⟨W.heap.size, 0, none⟩ = some v0 ∧ (W.alloc (.cells #[v0, v1, v2, v3, v4, v5, v6] t)).cell? ⟨W.heap.size, 1, none⟩ = some v1 ∧ (W.alloc (.cells #[v0, v1, v2, v3, v4, v5, v6] t)).cell? ⟨W.heap.size, 2, none⟩ = some v2 ∧ (W.alloc (.cells #[v0, v1, v2, v3, v4, v5, v6] t)).cell? ⟨W.heap.size, 3, none⟩ = some v3 ∧ (W.alloc (.cells #[v0, v1, v2, v3, v4, v5, v6] t)).cell? ⟨W.heap.size, 4, none⟩ = some v4 ∧ (W.alloc (.cells #[v0, v1, v2, v3, v4, v5, v6] t)).cell? ⟨W.heap.size, 5, none⟩ = some v5 ∧ (W.alloc (.cells #[v0, v1, v2, v3, v4, v5, v6] t)).cell? ⟨W.heap.size, 6, none⟩ = some v6 := ⟨by simp, by simp, by simp, by simp, by simp, by simp, by simp⟩

set_option maxHeartbeats 4000000 in
theorem unpacks_any (x : Int) (w : World) (hx0 : 0 ≤ x) (hx1 : x < 18446744073709551616) : Calls Try.prog 4 #[.int .u64 x] w fun e w' => e = .returned (.bool true) ∧ Below w.heap.size w w' := by
  have HU : unEnt x = .agg #[.int .i64 (une0 x), .bool (unb x 0), .bool (unb x 1), .bool (unb x 7), .bool (unb x 9), .bool (unb x 5), .bool (unb x 6)] := rfl
  go_enter Try.func4, Try.ntmps4
  go_wp2_with (first
    | (go_at_call 14; refine (unpack_any _ _ hx0 hx1).mono ?_; rintro e w1 ⟨rfl, hb1⟩)
    | (go_at_call 15; refine (runpack_any _ _ hx0 hx1).mono ?_; rintro e w2 ⟨rfl, hb2⟩; obtain ⟨c2, f2⟩ := bcell hb2; have z2 : w1.heap.size < w2.heap.size := (by have := hb2.size; simp at this; omega))
    | (go_at_call 11; refine (awake_any _).mono ?_; rintro e w3 ⟨rfl, hb3⟩; obtain ⟨c3, f3⟩ := bcell hb3; have z3 : w2.heap.size < w3.heap.size := (by have := hb3.size; simp at this; omega); have z4 : w1.heap.size < w2.heap.size + 1 := (by omega); have z5 : w1.heap.size < w3.heap.size := (by omega); have z6 : w1.heap.size ≠ w2.heap.size := (by omega)))
  go_ret
  exact ⟨rfl, bnextA (bnextA hb1 hb2) hb3⟩
theorem and7 {a b c d e f g h : Prop} (x : a ∧ b ∧ c ∧ d ∧ e ∧ f ∧ g) (y : h) : a ∧ b ∧ c ∧ d ∧ e ∧ f ∧ g ∧ h := ⟨x.1, x.2.1, x.2.2.1, x.2.2.2.1, x.2.2.2.2.1, x.2.2.2.2.2.1, x.2.2.2.2.2.2, y⟩
theorem all_below {B0 B1 B2 : Nat} {v0 v1 v2 v3 v4 v5 v6 v7 v8 v9 v10 v11 v12 v13 v14 v15 v16 v17 v18 v19 v20 : Value} {W w' : World} (h0 : B0 < B2) (h1 : B1 < B2) (h : B2 < W.heap.size ∧ W.cell? ⟨B0, 0, none⟩ = some (v0) ∧ W.cell? ⟨B0, 1, none⟩ = some (v1) ∧ W.cell? ⟨B0, 2, none⟩ = some (v2) ∧ W.cell? ⟨B0, 3, none⟩ = some (v3) ∧ W.cell? ⟨B0, 4, none⟩ = some (v4) ∧ W.cell? ⟨B0, 5, none⟩ = some (v5) ∧ W.cell? ⟨B0, 6, none⟩ = some (v6) ∧ W.cell? ⟨B1, 0, none⟩ = some (v7) ∧ W.cell? ⟨B1, 1, none⟩ = some (v8) ∧ W.cell? ⟨B1, 2, none⟩ = some (v9) ∧ W.cell? ⟨B1, 3, none⟩ = some (v10) ∧ W.cell? ⟨B1, 4, none⟩ = some (v11) ∧ W.cell? ⟨B1, 5, none⟩ = some (v12) ∧ W.cell? ⟨B1, 6, none⟩ = some (v13) ∧ W.cell? ⟨B2, 0, none⟩ = some (v14) ∧ W.cell? ⟨B2, 1, none⟩ = some (v15) ∧ W.cell? ⟨B2, 2, none⟩ = some (v16) ∧ W.cell? ⟨B2, 3, none⟩ = some (v17) ∧ W.cell? ⟨B2, 4, none⟩ = some (v18) ∧ W.cell? ⟨B2, 5, none⟩ = some (v19) ∧ W.cell? ⟨B2, 6, none⟩ = some (v20)) (hb : Below W.heap.size W w') : B2 < w'.heap.size ∧ w'.cell? ⟨B0, 0, none⟩ = some (v0) ∧ w'.cell? ⟨B0, 1, none⟩ = some (v1) ∧ w'.cell? ⟨B0, 2, none⟩ = some (v2) ∧ w'.cell? ⟨B0, 3, none⟩ = some (v3) ∧ w'.cell? ⟨B0, 4, none⟩ = some (v4) ∧ w'.cell? ⟨B0, 5, none⟩ = some (v5) ∧ w'.cell? ⟨B0, 6, none⟩ = some (v6) ∧ w'.cell? ⟨B1, 0, none⟩ = some (v7) ∧ w'.cell? ⟨B1, 1, none⟩ = some (v8) ∧ w'.cell? ⟨B1, 2, none⟩ = some (v9) ∧ w'.cell? ⟨B1, 3, none⟩ = some (v10) ∧ w'.cell? ⟨B1, 4, none⟩ = some (v11) ∧ w'.cell? ⟨B1, 5, none⟩ = some (v12) ∧ w'.cell? ⟨B1, 6, none⟩ = some (v13) ∧ w'.cell? ⟨B2, 0, none⟩ = some (v14) ∧ w'.cell? ⟨B2, 1, none⟩ = some (v15) ∧ w'.cell? ⟨B2, 2, none⟩ = some (v16) ∧ w'.cell? ⟨B2, 3, none⟩ = some (v17) ∧ w'.cell? ⟨B2, 4, none⟩ = some (v18) ∧ w'.cell? ⟨B2, 5, none⟩ = some (v19) ∧ w'.cell? ⟨B2, 6, none⟩ = some (v20) := by
  obtain ⟨h, r0, r1, r2, r3, r4, r5, r6, r7, r8, r9, r10, r11, r12, r13, r14, r15, r16, r17, r18, r19, r20⟩ := h
  obtain ⟨hc, _⟩ := bcell hb
  have e0 : B0 < W.heap.size := by omega
  have e1 : B1 < W.heap.size := by omega
  exact ⟨Nat.lt_of_lt_of_le h hb.size, (hc _ _ e0).trans r0, (hc _ _ e0).trans r1, (hc _ _ e0).trans r2, (hc _ _ e0).trans r3, (hc _ _ e0).trans r4, (hc _ _ e0).trans r5, (hc _ _ e0).trans r6, (hc _ _ e1).trans r7, (hc _ _ e1).trans r8, (hc _ _ e1).trans r9, (hc _ _ e1).trans r10, (hc _ _ e1).trans r11, (hc _ _ e1).trans r12, (hc _ _ e1).trans r13, (hc _ _ h).trans r14, (hc _ _ h).trans r15, (hc _ _ h).trans r16, (hc _ _ h).trans r17, (hc _ _ h).trans r18, (hc _ _ h).trans r19, (hc _ _ h).trans r20⟩
set_option maxHeartbeats 4000000 in
theorem allows_any (fr : Int) (p wr hu he us di : Bool) (prot : Int) (w : World) : Calls Try.prog 7 #[.agg #[.int .i64 fr, .bool p, .bool wr, .bool hu, .bool he, .bool us, .bool di], .int .i64 prot] w fun e w' => e = .returned (.bool true) ∧ Below w.heap.size w w' := by
  have HU : alx fr p wr hu he us di prot = .agg #[.int .i64 (alFr fr p wr hu he us di prot), .bool (alP fr p wr hu he us di prot), .bool (alW fr p wr hu he us di prot), .bool (alH fr p wr hu he us di prot), .bool (alHe fr p wr hu he us di prot), .bool (alU fr p wr hu he us di prot), .bool (alD fr p wr hu he us di prot)] := rfl
  go_enter Try.func7, Try.ntmps7
  go_upto_region 3 with (first
    | (go_at_call 16; refine (allow_any _ _ _ _ _ _ _ _ _).mono ?_; rintro e w1 ⟨rfl, hb1⟩; obtain ⟨c1, f1⟩ := bcell hb1; have q1 := seven_below (seven_new (t := 23)) hb1; have z1 : w.heap.size < w1.heap.size := (by have := hb1.size; simp at this; omega); have y1 : w.heap.size ≠ w1.heap.size := (by omega))
    | (go_at_call 17; refine (rallow_any _ _ _ _ _ _ _ _ _).mono ?_; rintro e w2 ⟨rfl, hb2⟩; have q2 := seven_below (seven_alloc _ q1) hb2; have q3 := seven_below (seven_new (t := 23)) hb2; obtain ⟨c2, f2⟩ := bcell hb2; have z2 : w1.heap.size < w2.heap.size := (by have := hb2.size; simp at this; omega); have z3 : w.heap.size < w2.heap.size := (by omega); have y3 : w.heap.size ≠ w2.heap.size := (by omega); have y2 : w1.heap.size ≠ w2.heap.size := (by omega); have y4 : w.heap.size < w1.heap.size + 1 := (by omega); have y5 : w.heap.size < w2.heap.size + 1 := (by omega); have y6 : w1.heap.size < w2.heap.size + 1 := (by omega); have y7 : w.heap.size ≤ w1.heap.size := (by omega)))
  go_region_held3 (fun w' => w2.heap.size < w'.heap.size ∧ w'.cell? ⟨w.heap.size, 0, none⟩ = some (.int .i64 fr) ∧ w'.cell? ⟨w.heap.size, 1, none⟩ = some (.bool p) ∧ w'.cell? ⟨w.heap.size, 2, none⟩ = some (.bool wr) ∧ w'.cell? ⟨w.heap.size, 3, none⟩ = some (.bool hu) ∧ w'.cell? ⟨w.heap.size, 4, none⟩ = some (.bool he) ∧ w'.cell? ⟨w.heap.size, 5, none⟩ = some (.bool us) ∧ w'.cell? ⟨w.heap.size, 6, none⟩ = some (.bool di) ∧ w'.cell? ⟨w1.heap.size, 0, none⟩ = some (.int .i64 (alFr fr p wr hu he us di prot)) ∧ w'.cell? ⟨w1.heap.size, 1, none⟩ = some (.bool (alP fr p wr hu he us di prot)) ∧ w'.cell? ⟨w1.heap.size, 2, none⟩ = some (.bool (alW fr p wr hu he us di prot)) ∧ w'.cell? ⟨w1.heap.size, 3, none⟩ = some (.bool (alH fr p wr hu he us di prot)) ∧ w'.cell? ⟨w1.heap.size, 4, none⟩ = some (.bool (alHe fr p wr hu he us di prot)) ∧ w'.cell? ⟨w1.heap.size, 5, none⟩ = some (.bool (alU fr p wr hu he us di prot)) ∧ w'.cell? ⟨w1.heap.size, 6, none⟩ = some (.bool (alD fr p wr hu he us di prot)) ∧ w'.cell? ⟨w2.heap.size, 0, none⟩ = some (.int .i64 (alFr fr p wr hu he us di prot)) ∧ w'.cell? ⟨w2.heap.size, 1, none⟩ = some (.bool (alP fr p wr hu he us di prot)) ∧ w'.cell? ⟨w2.heap.size, 2, none⟩ = some (.bool (alW fr p wr hu he us di prot)) ∧ w'.cell? ⟨w2.heap.size, 3, none⟩ = some (.bool (alH fr p wr hu he us di prot)) ∧ w'.cell? ⟨w2.heap.size, 4, none⟩ = some (.bool (alHe fr p wr hu he us di prot)) ∧ w'.cell? ⟨w2.heap.size, 5, none⟩ = some (.bool (alU fr p wr hu he us di prot)) ∧ w'.cell? ⟨w2.heap.size, 6, none⟩ = some (.bool (alD fr p wr hu he us di prot))) (first | exact ⟨Nat.lt_succ_self _, (and7 (seven_alloc _ q2) (and7 (seven_alloc _ q3) seven_new))⟩ | exact all_below z3 z2 (by assumption) hba | exact all_below z3 z2 (by assumption) hbb | exact all_below z3 z2 (by assumption) hbd | go_keep)
    (first
      | (go_at_call 11; refine (awake_any _).mono ?_; rintro e wa ⟨rfl, hba⟩)
      | (go_at_call 18; refine (prot_any _ _ _ _ _ _ _ _).mono ?_; rintro e wb ⟨rfl, hbb⟩)
      | (go_at_call 19; refine (rprot_any _ _ _ _ _ _ _ _).mono ?_; rintro e wd ⟨rfl, hbd⟩))
  go_wp2
  go_ret
  exact ⟨rfl, bnext (bnext (bnext (Below.drew ((bnextA (bnextA (Below.refl _ _) hb1) hb2).alloc (Nat.le_of_lt z3) _)) hba) hbb) hbd⟩

end Go.Proofs.Ytnbolfjijhbfbaa
