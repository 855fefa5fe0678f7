/- Parts of the proofs of layer 6 (pick): contracts of its functions, and the laws' walks. -/
import Derived.Test.YtekkblhghbkdiaaProg
import Derived.WalkKit
import Derived.WalkSpells
import Derived.WalkLawsBesides
import Derived.BigQuiet
import Derived.Deep.QuietTactic
import Derived.Lib.Hide
import Derived.Deep.RegionHeld3
import Derived.Deep.DeepCutAuto
import Derived.KernelRfl
import Derived.Deep.OwnRows
import Derived.Laws.CopyOwn
import Derived.Laws.CopyRow
import Derived.StillTailTactics
import Derived.Deep.RegionLaw
import Derived.Test.YtekkblhghbkdiaaP22
import Derived.Deep.RegionHeld3
import Derived.Deep.CutRange
import Derived.Deep.CutBlock
namespace Go.Proofs.Ytekkblhghbkdiaa
open Go.RowKit
set_option linter.unusedVariables false
set_option linter.unusedSimpArgs false

theorem Tw.drew {w0 W : World} {p g : Nat} {F1 F2 : List Nat} {M R : List E} (h : Tw w0 W p F1 g F2 M R) : Tw w0 W.drew p F1 g F2 M R := ⟨⟨h.1.1.drew, h.1.2.1.drew, h.1.2.2⟩, h.2.drew⟩
/-- Both, and the call's own box. -/
def Tx (w0 W : World) (p : Nat) (F1 : List Nat) (g : Nat) (F2 : List Nat) (M R : List E) (C : Nat) (d0 d1 d2 : Int) : Prop :=
  Tw w0 W p F1 g F2 M R ∧ W.heap[C]? = some (.cells #[.int .i64 d0, .int .i64 d1, .int .i64 d2] 33 (0, 0)) ∧ C ∉ F1 ∧ C ∉ F2
theorem Tw.box {w0 W : World} {p g : Nat} {F1 F2 : List Nat} {M R : List E} (h : Tw w0 W p F1 g F2 M R) (d0 d1 d2 : Int) : Tx w0 (W.alloc (.cells #[.int .i64 d0, .int .i64 d1, .int .i64 d2] 33)) p F1 g F2 M R W.heap.size d0 d1 d2 :=
  ⟨h.keep ((Below.refl _ _).alloc (Nat.le_refl _) _), heap_alloc_new W _, fun hm => Nat.lt_irrefl _ (h.1.1.lt _ hm), fun hm => Nat.lt_irrefl _ (h.1.2.1.lt _ hm)⟩
theorem Tx.drew {w0 W : World} {p g C : Nat} {F1 F2 : List Nat} {M R : List E} {d0 d1 d2 : Int} (h : Tx w0 W p F1 g F2 M R C d0 d1 d2) : Tx w0 W.drew p F1 g F2 M R C d0 d1 d2 := ⟨h.1.drew, h.2⟩
theorem Tx.keep {w0 W W' : World} {p g C : Nat} {F1 F2 : List Nat} {M R : List E} {d0 d1 d2 : Int} (h : Tx w0 W p F1 g F2 M R C d0 d1 d2) (hb : Below W.heap.size W W') : Tx w0 W' p F1 g F2 M R C d0 d1 d2 :=
  ⟨h.1.keep hb, (hb.block _ (lt_of_block h.2.1)).trans h.2.1, h.2.2⟩
theorem Tx.prog {w0 W W' : World} {p g C : Nat} {F1 F1' F2 : List Nat} {M M' R : List E} {d0 d1 d2 : Int} (h : Tx w0 W p F1 g F2 M R C d0 d1 d2) (hc : Chg F1 F1' W W') (hk : PH W' p F1' M') : Tx w0 W' p F1' g F2 M' R C d0 d1 d2 :=
  ⟨h.1.prog hc hk, (hc.block (lt_of_block h.2.1) h.2.2.1).trans h.2.1, hc.out h.2.2.1 (lt_of_block h.2.1), h.2.2.2⟩
theorem Tx.ref {w0 W W' : World} {p g C : Nat} {F1 F2 F2' : List Nat} {M R R' : List E} {d0 d1 d2 : Int} (h : Tx w0 W p F1 g F2 M R C d0 d1 d2) (hc : Chg F2 F2' W W') (hk : Rt W' g F2' R') : Tx w0 W' p F1 g F2' M R' C d0 d1 d2 :=
  ⟨h.1.ref hc hk, (hc.block (lt_of_block h.2.1) h.2.2.2).trans h.2.1, h.2.2.1, hc.out h.2.2.2 (lt_of_block h.2.1)⟩
theorem Tx.left {w0 W : World} {p g C : Nat} {F1 F2 : List Nat} {M M' R : List E} {d0 d1 d2 : Int} (h : Tx w0 W p F1 g F2 M R C d0 d1 d2) (hp : M.Perm M') : Tx w0 W p F1 g F2 M' R C d0 d1 d2 := ⟨h.1.left hp, h.2⟩
theorem Tx.cells {w0 W : World} {p g C : Nat} {F1 F2 : List Nat} {M R : List E} {d0 d1 d2 : Int} (h : Tx w0 W p F1 g F2 M R C d0 d1 d2) : W.cell? ⟨C, 0, none⟩ = some (.int .i64 d0) ∧ W.cell? ⟨C, 1, none⟩ = some (.int .i64 d1) ∧ W.cell? ⟨C, 2, none⟩ = some (.int .i64 d2) :=
  ⟨cell_of_row W C 0 _ 33 _ h.2.1, cell_of_row W C 1 _ 33 _ h.2.1, cell_of_row W C 2 _ 33 _ h.2.1⟩
theorem Tx.drewN {w0 W : World} {p g C : Nat} {F1 F2 : List Nat} {M R : List E} {d0 d1 d2 : Int} (h : Tx w0 W p F1 g F2 M R C d0 d1 d2) (k : Nat) : Tx w0 (W.drewN k) p F1 g F2 M R C d0 d1 d2 := h.keep (below_drewN (Below.refl _ _) k)
theorem Tw.drewN {w0 W : World} {p g : Nat} {F1 F2 : List Nat} {M R : List E} (h : Tw w0 W p F1 g F2 M R) (k : Nat) : Tw w0 (W.drewN k) p F1 g F2 M R := h.keep (below_drewN (Below.refl _ _) k)
theorem box_keep {W W' : World} {F F' : List Nat} {b j0 j1 j2 : Nat} {v0 v1 v2 : Value} (h : W.cell? ⟨b, j0, none⟩ = some v0 ∧ W.cell? ⟨b, j1, none⟩ = some v1 ∧ W.cell? ⟨b, j2, none⟩ = some v2) (hc : Chg F F' W W') (hn : b ∉ F) : W'.cell? ⟨b, j0, none⟩ = some v0 ∧ W'.cell? ⟨b, j1, none⟩ = some v1 ∧ W'.cell? ⟨b, j2, none⟩ = some v2 :=
  ⟨hc.cell h.1 hn, hc.cell h.2.1 hn, hc.cell h.2.2 hn⟩
set_option maxRecDepth 100000 in
set_option maxHeartbeats 16000000 in
theorem does_law (ao : Option Addr) (len cap : Nat) (z : Nat → Nat → Int) (w : World) (hlc : len ≤ cap) (hcm : cap ≤ maxLen) (hA : Acts w ao len z) : Calls Try.prog 6 #[.slice ao len cap] w fun e w' => e = .returned (.bool true) ∧ Below w.heap.size w w' := by
  have HA := Lib.hid hA
  have hlen : len ≤ 9223372036854775807 := by unfold maxLen at hcm; omega
  clear hA
  go_enter Try.func6, Try.ntmps6
  go_wp2_with fail
  refine (New_any w).mono ?_
  rintro e w1 ⟨p, F1, rfl, hc1, hk1⟩
  have HI := Lib.hid (tw_start hc1 hk1)
  clear hc1 hk1
  go_upto_region 2 with fail
  generalize w1.alloc (.cells #[.slice none 0 0] 28) = w2 at *
  generalize w1.heap.size = g at *
  go_wp2_with fail
  refine (awake_any w2).mono ?_
  rintro e w3 ⟨rfl, hb3⟩
  have HT := Lib.hid (HI.out.keep hb3)
  clear hb3 HI
  go_wp2_with fail
  go_loopw [5] (fun s wr => ∃ i : Nat, i ≤ len ∧ i ≤ 200 ∧ s = .int .i64 (i : Nat) ∧ ∃ F1 F2 M, RowKit.Hid (Tw w wr p F1 g F2 M M ∧ 0 ≤ i)) (fun s _ => len - (intOf s).toNat)
  case atStart => exact ⟨0, Nat.zero_le _, Nat.zero_le _, rfl, _, _, _, Lib.hid ⟨HT.out, Nat.le_refl _⟩⟩
  case round =>
    obtain ⟨i, hi, hil, rfl, F1, F2, M, HM⟩ := hrel
    by_cases hlt : i < len ∧ i < 200
    · obtain ⟨hlt, h80⟩ := hlt
      obtain ⟨lb, lo, rfl, e0, e1, e2, hwf⟩ := HA.out.below HM.out.1.2 i hlt
      have h5 : ((i : Nat) : Int) < ((len : Nat) : Int) := by omega
      have h6 : ((i : Nat) : Int) < 200 := by omega
      have hml0 := HM.out.1.1.1.wl.2.2
      generalize z i 0 = d0 at *
      generalize z i 1 = d1 at *
      generalize z i 2 = d2 at *
      go_upto_region 8 with fail
      have HM2 := Lib.hid (HM.out.1.box d0 d1 d2)
      clear e0 e1 e2 HM
      generalize wr.alloc (.cells #[.int .i64 d0, .int .i64 d1, .int .i64 d2] 33) = wa at *
      generalize wr.heap.size = C at *
      obtain ⟨a0, a1, a2⟩ := HM2.out.cells
      go_upto_block 2 with fail
      go_cut [7, 8, 9, 10, 11, 12, 13, 14, 15, 16, 17] from 30 to 181 (fun s7 s8 s9 s10 s11 s12 s13 s14 s15 s16 s17 wx => s7 = .bool true ∧ ∃ F1z F2z Mz, RowKit.Hid (Tx w wx p F1z g F2z Mz Mz C d0 d1 d2))
      case first =>
        by_cases m0 : d0 = 0
        · subst m0
          have HD := Lib.hid HM2.out.drew
          have HN := Lib.hid HM2.out.2.2
          go_upto_region 16 with fail
          go_region_held3 (fun w' => w'.cell? ⟨C, 0, none⟩ = some (.int .i64 0) ∧ w'.cell? ⟨C, 1, none⟩ = some (.int .i64 d1) ∧ w'.cell? ⟨C, 2, none⟩ = some (.int .i64 d2)) (first | exact box_keep (by assumption) hc5 HN.out.1 | exact box_keep (by assumption) hc6 HN.out.2 | go_keep) (first | (go_at_call 11; refine (Put_any p F1 M ⟨d1, d2⟩ wa.drew HD.out.1.1.1).mono ?_; rintro e w5 ⟨rfl, F1z, hc5, hk5⟩; have HM5 := Lib.hid (HD.out.prog hc5 hk5)) | (go_at_call 12; refine (RPut_any ⟨d1, d2⟩ g F2 M w5 HM5.out.1.1.2.1 (by omega) HD.out.1.1.1.wl.2.1).mono ?_; rintro e w6 ⟨rfl, F2z, hc6, Mz, hk6, hp6⟩))
          all_goals (
            have HZ := Lib.hid ((HM5.out.ref hc6 hk6).left hp6.symm)
            go_wp2_with fail
            go_meet
            exact ⟨by first | rfl | simp, F1z, F2z, Mz, HZ⟩)
        · skip
          by_cases m1 : d0 = 1
          · subst m1
            have HD := Lib.hid HM2.out.drew
            have HN := Lib.hid HM2.out.2.2
            go_upto_region 16 with fail
            go_region_held3 (fun w' => w'.cell? ⟨C, 0, none⟩ = some (.int .i64 1) ∧ w'.cell? ⟨C, 1, none⟩ = some (.int .i64 d1) ∧ w'.cell? ⟨C, 2, none⟩ = some (.int .i64 d2)) (first | exact box_keep (by assumption) hc5 HN.out.1 | exact box_keep (by assumption) hc6 HN.out.2 | go_keep) (first | (go_at_call 11; refine (Put_any p F1 M ⟨d1, d2⟩ wa.drew HD.out.1.1.1).mono ?_; rintro e w5 ⟨rfl, F1z, hc5, hk5⟩; have HM5 := Lib.hid (HD.out.prog hc5 hk5)) | (go_at_call 12; refine (RPut_any ⟨d1, d2⟩ g F2 M w5 HM5.out.1.1.2.1 (by omega) HD.out.1.1.1.wl.2.1).mono ?_; rintro e w6 ⟨rfl, F2z, hc6, Mz, hk6, hp6⟩))
            all_goals (
              have HZ := Lib.hid ((HM5.out.ref hc6 hk6).left hp6.symm)
              go_wp2_with fail
              go_meet
              exact ⟨by first | rfl | simp, F1z, F2z, Mz, HZ⟩)
          · skip
            by_cases m2 : d0 = 2
            · subst m2
              have HD := Lib.hid HM2.out.drew
              have HN := Lib.hid HM2.out.2.2
              go_upto_region 16 with fail
              go_region_held3 (fun w' => w'.cell? ⟨C, 0, none⟩ = some (.int .i64 2) ∧ w'.cell? ⟨C, 1, none⟩ = some (.int .i64 d1) ∧ w'.cell? ⟨C, 2, none⟩ = some (.int .i64 d2)) (first | exact box_keep (by assumption) hc5 HN.out.1 | exact box_keep (by assumption) hc6 HN.out.2 | go_keep) (first | (go_at_call 11; refine (Put_any p F1 M ⟨d1, d2⟩ wa.drew HD.out.1.1.1).mono ?_; rintro e w5 ⟨rfl, F1z, hc5, hk5⟩; have HM5 := Lib.hid (HD.out.prog hc5 hk5)) | (go_at_call 12; refine (RPut_any ⟨d1, d2⟩ g F2 M w5 HM5.out.1.1.2.1 (by omega) HD.out.1.1.1.wl.2.1).mono ?_; rintro e w6 ⟨rfl, F2z, hc6, Mz, hk6, hp6⟩))
              all_goals (
                have HZ := Lib.hid ((HM5.out.ref hc6 hk6).left hp6.symm)
                go_wp2_with fail
                go_meet
                exact ⟨by first | rfl | simp, F1z, F2z, Mz, HZ⟩)
            · skip
              by_cases m3 : d0 = 3
              · subst m3
                have HD := Lib.hid HM2.out.drew
                have HN := Lib.hid HM2.out.2.2
                go_upto_region 18 with fail
                go_region_held3 (fun w' => w'.cell? ⟨C, 0, none⟩ = some (.int .i64 3) ∧ w'.cell? ⟨C, 1, none⟩ = some (.int .i64 d1) ∧ w'.cell? ⟨C, 2, none⟩ = some (.int .i64 d2)) (first | exact box_keep (by assumption) hc5 HN.out.1 | exact box_keep (by assumption) hc6 HN.out.2 | go_keep) (first | (go_at_call 17; refine (Drop_fn p F1 M d1 wa.drew HD.out.1.1.1 hwf).mono ?_; rintro e w5 ⟨rfl, hc5, hk5⟩; have HM5 := Lib.hid (HD.out.prog hc5 hk5)) | (go_at_call 15; refine (RDrop_fn d1 g F2 M w5 HM5.out.1.1.2.1 (by omega)).mono ?_; rintro e w6 ⟨rfl, F2z, hc6, hk6⟩))
                all_goals (
                  have HZ := Lib.hid (HM5.out.ref hc6 hk6)
                  go_wp2_with fail
                  go_meet
                  exact ⟨by first | rfl | simp, F1, F2z, _, HZ⟩)
              · skip
                by_cases m4 : d0 = 4
                · subst m4
                  clear a0 a1 a2
                  go_wp2_with fail
                  refine (Pop_ok p F1 M wa HM2.out.1.1.1).mono ?_
                  rintro e w5 ⟨hc5, he⟩
                  rcases he with ⟨h0, hk5, rfl⟩ | ⟨x, hx, hk5, rfl⟩
                  · subst h0
                    have HM5 := Lib.hid (HM2.out.prog hc5 hk5)
                    clear hc5 hk5
                    go_wp2_with fail
                    refine (RFirst_any g F2 [] w5 HM5.out.1.1.2.1 (by simp)).mono ?_
                    rintro e w6 ⟨hb6, he⟩
                    have HM6 := Lib.hid (HM5.out.keep hb6)
                    clear hb6
                    rcases he with ⟨_, rfl⟩ | ⟨x, hx, _⟩
                    · have HB7 := Lib.hid (HM6.out.keep ((Below.refl w6.heap.size w6).alloc (Nat.le_refl _) (.cells #[.int .i64 0, .int .i64 0] 41)))
                      have hz := heap_alloc_new w6 (.cells #[.int .i64 0, .int .i64 0] 41)
                      go_upto_region 22 with fail
                      have x0 : (w6.alloc (.cells #[.int .i64 0, .int .i64 0] 41)).cell? ⟨w6.heap.size, 0, none⟩ = some (.int .i64 0) := cell_of_row _ w6.heap.size 0 _ 41 _ hz
                      have x1 : (w6.alloc (.cells #[.int .i64 0, .int .i64 0] 41)).cell? ⟨w6.heap.size, 1, none⟩ = some (.int .i64 0) := cell_of_row _ w6.heap.size 1 _ 41 _ hz
                      clear hz
                      generalize w6.alloc (.cells #[.int .i64 0, .int .i64 0] 41) = w7 at *
                      generalize w6.heap.size = C7 at *
                      go_wp2_with fail
                      refine (RDrop_fn 0 g F2 [] w7 HB7.out.1.1.2.1 (by simp)).mono ?_
                      rintro e w8 ⟨rfl, F2z, hc8, hk8⟩
                      have HZ : RowKit.Hid (Tx w w8 p F1 g F2z [] [] C 4 d1 d2) := Lib.hid (HB7.out.ref hc8 hk8)
                      clear hc8 hk8 x0 x1
                      go_wp2_with fail
                      go_meet
                      exact ⟨by first | rfl | simp, F1, F2z, [], HZ⟩
                    · cases hx.1
                  · have HX := Lib.hid hx
                    have HM5 := Lib.hid (HM2.out.prog hc5 hk5)
                    clear hc5 hk5 hx
                    go_wp2_with fail
                    refine (RFirst_any g F2 M w5 HM5.out.1.1.2.1 (by omega)).mono ?_
                    rintro e w6 ⟨hb6, he⟩
                    have HM6 := Lib.hid (HM5.out.keep hb6)
                    clear hb6
                    rcases he with ⟨h0, _⟩ | ⟨x', hx', rfl⟩
                    · exact absurd HX.out.1 (by rw [h0]; simp)
                    · obtain rfl := fst_unique hx' HX.out
                      clear hx'
                      have HB7 := Lib.hid (HM6.out.keep ((Below.refl w6.heap.size w6).alloc (Nat.le_refl _) (.cells #[.int .i64 x'.f, .int .i64 x'.w] 41)))
                      have hz := heap_alloc_new w6 (.cells #[.int .i64 x'.f, .int .i64 x'.w] 41)
                      go_upto_region 22 with fail
                      have x0 : (w6.alloc (.cells #[.int .i64 x'.f, .int .i64 x'.w] 41)).cell? ⟨w6.heap.size, 0, none⟩ = some (.int .i64 x'.f) := cell_of_row _ w6.heap.size 0 _ 41 _ hz
                      have x1 : (w6.alloc (.cells #[.int .i64 x'.f, .int .i64 x'.w] 41)).cell? ⟨w6.heap.size, 1, none⟩ = some (.int .i64 x'.w) := cell_of_row _ w6.heap.size 1 _ 41 _ hz
                      clear hz
                      generalize w6.alloc (.cells #[.int .i64 x'.f, .int .i64 x'.w] 41) = w7 at *
                      generalize w6.heap.size = C7 at *
                      go_wp2_with fail
                      refine (RDrop_fn x'.f g F2 M w7 HB7.out.1.1.2.1 (by omega)).mono ?_
                      rintro e w8 ⟨rfl, F2z, hc8, hk8⟩
                      have HZ := Lib.hid (HB7.out.ref hc8 hk8)
                      clear hc8 hk8 x0 x1
                      go_wp2_with fail
                      go_meet
                      exact ⟨by first | rfl | simp, F1, F2z, _, HZ⟩
                · skip
                  clear a0 a1 a2
                  go_wp2_with fail
                  refine (First_any p F1 M wa HM2.out.1.1.1).mono ?_
                  rintro e w5 ⟨hb5, he⟩
                  have HM5 := Lib.hid (HM2.out.keep hb5)
                  clear hb5
                  rcases he with ⟨h0, rfl⟩ | ⟨x, hx, rfl⟩
                  · subst h0
                    go_wp2_with fail
                    refine (RFirst_any g F2 [] w5 HM5.out.1.1.2.1 (by simp)).mono ?_
                    rintro e w6 ⟨hb6, he⟩
                    have HM6 := Lib.hid (HM5.out.keep hb6)
                    clear hb6
                    rcases he with ⟨_, rfl⟩ | ⟨x, hx, _⟩
                    · have HZ := Lib.hid (HM6.out.keep ((Below.refl w6.heap.size w6).alloc (Nat.le_refl _) (.cells #[.int .i64 0, .int .i64 0] 41)))
                      have hz := heap_alloc_new w6 (.cells #[.int .i64 0, .int .i64 0] 41)
                      go_upto_region 12 with fail
                      have x0 : (w6.alloc (.cells #[.int .i64 0, .int .i64 0] 41)).cell? ⟨w6.heap.size, 0, none⟩ = some (.int .i64 0) := cell_of_row _ w6.heap.size 0 _ 41 _ hz
                      have x1 : (w6.alloc (.cells #[.int .i64 0, .int .i64 0] 41)).cell? ⟨w6.heap.size, 1, none⟩ = some (.int .i64 0) := cell_of_row _ w6.heap.size 1 _ 41 _ hz
                      clear hz
                      generalize w6.alloc (.cells #[.int .i64 0, .int .i64 0] 41) = w7 at *
                      generalize w6.heap.size = C7 at *
                      go_wp2_with fail
                      go_meet
                      exact ⟨by first | rfl | simp, F1, F2, [], HZ⟩
                    · cases hx.1
                  · have HX := Lib.hid hx
                    clear hx
                    go_wp2_with fail
                    refine (RFirst_any g F2 M w5 HM5.out.1.1.2.1 (by omega)).mono ?_
                    rintro e w6 ⟨hb6, he⟩
                    have HM6 := Lib.hid (HM5.out.keep hb6)
                    clear hb6
                    rcases he with ⟨h0, _⟩ | ⟨x', hx', rfl⟩
                    · exact absurd HX.out.1 (by rw [h0]; simp)
                    · obtain rfl := fst_unique hx' HX.out
                      clear hx'
                      have HZ := Lib.hid (HM6.out.keep ((Below.refl w6.heap.size w6).alloc (Nat.le_refl _) (.cells #[.int .i64 x'.f, .int .i64 x'.w] 41)))
                      have hz := heap_alloc_new w6 (.cells #[.int .i64 x'.f, .int .i64 x'.w] 41)
                      go_upto_region 12 with fail
                      have x0 : (w6.alloc (.cells #[.int .i64 x'.f, .int .i64 x'.w] 41)).cell? ⟨w6.heap.size, 0, none⟩ = some (.int .i64 x'.f) := cell_of_row _ w6.heap.size 0 _ 41 _ hz
                      have x1 : (w6.alloc (.cells #[.int .i64 x'.f, .int .i64 x'.w] 41)).cell? ⟨w6.heap.size, 1, none⟩ = some (.int .i64 x'.w) := cell_of_row _ w6.heap.size 1 _ 41 _ hz
                      clear hz
                      generalize w6.alloc (.cells #[.int .i64 x'.f, .int .i64 x'.w] 41) = w7 at *
                      generalize w6.heap.size = C7 at *
                      go_wp2_with fail
                      go_meet
                      exact ⟨by first | rfl | simp, F1, F2, M, HZ⟩
      case rest =>
        obtain ⟨rfl, F1z, F2z, Mz, HZ⟩ := hcut
        clear a0 a1 a2 HM2
        obtain ⟨a0, a1, a2⟩ := HZ.out.cells
        clear a0 a2
        go_wp2_with fail
        refine (Worth_any p F1z Mz d1 wc HZ.out.1.1.1 hwf).mono ?_
        rintro e wt ⟨hbt, he⟩
        have HZ2 := Lib.hid (HZ.out.keep hbt)
        clear hbt a1
        obtain ⟨a0, a1, a2⟩ := HZ2.out.cells
        clear a0 a2
        have hml := HZ2.out.1.1.1.wl.2.2
        obtain ⟨al, cl, c0, hT⟩ := HZ2.out.1.1.2.1.look
        have HLEN := Lib.hid (fun k => (PLen_any p F1z Mz (wt.drewN k) (HZ2.out.1.1.1.drewN k)).mono fun _ _ h => (⟨h.1, h.2.symm⟩ : _ ∧ _))
        rcases he with ⟨hno, rfl⟩ | ⟨y, hy, hyf, rfl⟩
        · go_wp2_with fail
          refine (RAt_any d1 g F2z Mz wt HZ2.out.1.1.2.1 (by omega)).mono ?_
          rintro e wu ⟨rfl, he⟩
          rcases he with ⟨_, rfl⟩ | ⟨i2, y2, hy2, hf2, _⟩
          · clear hT hno
            go_upto_region 26 with fail
            go_quiet ((go_at_call 13; exact Calls.quiet_of_same (HLEN.out _)))
            go_wp2_with fail
            go_roundw
            case rel => exact ⟨i + 1, hlt, h80, by simp, F1z, F2z, Mz, Lib.hid ⟨HZ2.out.1.drewN nq, Nat.zero_le _⟩⟩
            case measure => simp [intOf]; omega
          · exact absurd hf2 (hno y2 (List.mem_of_getElem? hy2))
        · go_wp2_with fail
          refine (RAt_any d1 g F2z Mz wt HZ2.out.1.1.2.1 (by omega)).mono ?_
          rintro e wu ⟨rfl, he⟩
          rcases he with ⟨hno, _⟩ | ⟨i2, y2, hy2, hf2, rfl⟩
          · exact absurd hyf (hno y hy)
          obtain rfl : y2 = y := pw_eq HZ2.out.1.1.1.wl.2.1 (List.mem_of_getElem? hy2) hy (hf2.trans hyf.symm)
          have hi2 : i2 < Mz.length := (List.getElem?_eq_some_iff.1 hy2).1
          obtain ⟨bl, cl2, hv, _, _, hbl, hcell, _⟩ := hT.read (ne_nil_of_lt hi2)
          cases hv
          obtain ⟨e0, e1⟩ := hcell i2 _ hy2
          have hi0 : (0 : Int) ≤ ((i2 : Nat) : Int) := by omega
          have hi0n : ¬ (((i2 : Nat) : Int) < 0) := by omega
          have hi2I : ((i2 : Nat) : Int) < ((Mz.length : Nat) : Int) := by omega
          clear hcell hbl hT e0 hy hyf hy2 hf2
          go_upto_region 26 with fail
          go_quiet ((go_at_call 13; exact Calls.quiet_of_same (HLEN.out _)))
          go_wp2_with fail
          go_roundw
          case rel => exact ⟨i + 1, hlt, h80, by simp, F1z, F2z, Mz, Lib.hid ⟨HZ2.out.1.drewN nq, Nat.zero_le _⟩⟩
          case measure => simp [intOf]; omega
    · by_cases hil2 : i < len
      · have h6 : ¬ (((i : Nat) : Int) < 200) := by omega
        have h5 : ((i : Nat) : Int) < ((len : Nat) : Int) := by omega
        clear hlt
        go_wp2_with fail
        go_ret
        exact ⟨rfl, HM.out.1.2⟩
      · have h5 : ¬ (((i : Nat) : Int) < ((len : Nat) : Int)) := by omega
        clear hlt
        go_wp2_with fail
        go_ret
        exact ⟨rfl, HM.out.1.2⟩

end Go.Proofs.Ytekkblhghbkdiaa
