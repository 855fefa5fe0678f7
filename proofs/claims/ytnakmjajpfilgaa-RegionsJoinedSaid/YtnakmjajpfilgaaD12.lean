/- Parts of the proofs of layer 20 (regions): contracts of its functions, and the laws' walks. -/
import Derived.Test.YtnakmjajpfilgaaProg
import Derived.WalkKit
import Derived.WalkSpells
import Derived.WalkLawsBesides
import Derived.BigQuiet
import Derived.Deep.QuietTactic
import Derived.Lib.Hide
import Derived.Deep.RegionHeld3
import Derived.Deep.DeepCutAuto
import Derived.KernelRfl
import Derived.Deep.OwnRows
import Derived.Laws.CopyOwn
import Derived.Laws.CopyRow
import Derived.StillTailTactics
import Derived.Deep.RegionLaw
import Derived.Test.YtnakmjajpfilgaaD11
namespace Go.Proofs.Ytnakmjajpfilgaa
open Go.RowKit
set_option linter.unusedVariables false
set_option linter.unusedSimpArgs false

/-- Both maps, apart from each other. -/
def Two (w : World) (g : Nat) (F1 : List Nat) (l q : List R2) (g2 bi : Nat) (F2 : List Nat) (f : Nat → Bool) (q2 : List R2) : Prop := Mp w g F1 l q ∧ Rm w g2 bi F2 f q2 ∧ Sep F1 F2
theorem Chg.left {F F' H : List Nat} {w w' : World} (h : Chg F F' w w') : Chg (F ++ H) (F' ++ H) w w' :=
  ⟨h.1, h.2.1, h.2.2.1, h.2.2.2.1, fun b hb hm => h.2.2.2.2.1 b hb fun q => hm (by simp [q]), fun b hb => by
    rcases List.mem_append.1 hb with hb | hb
    · exact (h.2.2.2.2.2 b hb).imp (fun q => by simp [q]) id
    · exact .inl (by simp [hb])⟩
theorem Chg.right {F F' H : List Nat} {w w' : World} (h : Chg F F' w w') : Chg (H ++ F) (H ++ F') w w' :=
  ⟨h.1, h.2.1, h.2.2.1, h.2.2.2.1, fun b hb hm => h.2.2.2.2.1 b hb fun q => hm (by simp [q]), fun b hb => by
    rcases List.mem_append.1 hb with hb | hb
    · exact .inl (by simp [hb])
    · exact (h.2.2.2.2.2 b hb).imp (fun q => by simp [q]) id⟩
/-- Both maps behind some calls, and the call's struct in block B; since the world w. -/
def St (w : World) (F0 : List Nat) (B : Nat) (c0 c1 c2 : Int) (W : World) (g : Nat) (F1 : List Nat) (l q : List R2) (g2 bi : Nat) (F2 : List Nat) (f : Nat → Bool) (q2 : List R2) : Prop :=
  Two W g F1 l q g2 bi F2 f q2 ∧ Chg F0 (F1 ++ F2) w W ∧ (W.cell? ⟨B, 0, none⟩ = some (.int .i64 c0) ∧ W.cell? ⟨B, 1, none⟩ = some (.int .i64 c1) ∧ W.cell? ⟨B, 2, none⟩ = some (.int .i64 c2)) ∧ B ∉ F1 ∧ B ∉ F2
theorem St.m {w W W' : World} {F0 : List Nat} {B : Nat} {c0 c1 c2 : Int} {g : Nat} {F1 F1' : List Nat} {l q l' q' : List R2} {g2 bi : Nat} {F2 : List Nat} {f : Nat → Bool} {q2 : List R2} (s : St w F0 B c0 c1 c2 W g F1 l q g2 bi F2 f q2) (hc : Chg F1 F1' W W') (hm : Mp W' g F1' l' q') :
    St w F0 B c0 c1 c2 W' g F1' l' q' g2 bi F2 f q2 := by
  obtain ⟨⟨t1, t2, t3⟩, h2, ⟨k0, k1, k2⟩, h4, h5⟩ := s
  exact ⟨⟨hm, t2.chg hc t3.symm, hc.sep t3 t2.lt⟩, h2.trans hc.left, ⟨hc.cell k0 h4, hc.cell k1 h4, hc.cell k2 h4⟩, hc.out h4 (World.block_lt_of_cell? W _ k0), h5⟩
theorem St.x {w W W' : World} {F0 : List Nat} {B : Nat} {c0 c1 c2 : Int} {g : Nat} {F1 F2' : List Nat} {l q : List R2} {g2 bi : Nat} {F2 : List Nat} {f f' : Nat → Bool} {q2 q2' : List R2} (s : St w F0 B c0 c1 c2 W g F1 l q g2 bi F2 f q2) (hc : Chg F2 F2' W W') (hm : Rm W' g2 bi F2' f' q2') :
    St w F0 B c0 c1 c2 W' g F1 l q g2 bi F2' f' q2' := by
  obtain ⟨⟨t1, t2, t3⟩, h2, ⟨k0, k1, k2⟩, h4, h5⟩ := s
  exact ⟨⟨t1.chg hc t3, hm, (hc.sep t3.symm t1.lt).symm⟩, h2.trans hc.right, ⟨hc.cell k0 h5, hc.cell k1 h5, hc.cell k2 h5⟩, h4, hc.out h5 (World.block_lt_of_cell? W _ k0)⟩
/-- Behind a call of both. -/
def DoPost (w : World) (F0 : List Nat) (g g2 bi : Nat) (l q : List R2) (f : Nat → Bool) (a b : Int) (w' : World) : Prop :=
  ∃ F1 F2 l' q' f' q2', Two w' g F1 l' q' g2 bi F2 f' q2' ∧ Chg F0 (F1 ++ F2) w w' ∧ Rel l' q' f' q2' ∧ q'.length ≤ q.length + 1 ∧ ∀ i : Nat, ¬ (a ≤ (i : Int) ∧ (i : Int) < b) → f' i = f i
set_option maxRecDepth 100000 in
set_option maxHeartbeats 16000000 in
theorem do_any (g : Nat) (F1 : List Nat) (l q : List R2) (g2 bi : Nat) (F2 : List Nat) (f : Nat → Bool) (q2 : List R2) (c0 c1 c2 : Int) (w : World) (t : Two w g F1 l q g2 bi F2 f q2) (r : Rel l q f q2) (hm : q.length ≤ 1000) :
    Calls Try.prog 18 #[.pointer (some ⟨g, 0, none⟩), .pointer (some ⟨g2, 0, none⟩), .agg #[.int .i64 c0, .int .i64 c1, .int .i64 c2]] w fun e w' => e = .returned (.bool true) ∧ DoPost w (F1 ++ F2) g g2 bi l q f c1 c2 w' := by
  have hbx : Below w.heap.size w (w.alloc (.cells #[.int .i64 c0, .int .i64 c1, .int .i64 c2] 40)) := (Below.refl _ w).alloc (Nat.le_refl _) _
  have hh := heap_alloc_new w (.cells #[.int .i64 c0, .int .i64 c1, .int .i64 c2] 40)
  have HS0 : RowKit.Hid (St w (F1 ++ F2) w.heap.size c0 c1 c2 (w.alloc (.cells #[.int .i64 c0, .int .i64 c1, .int .i64 c2] 40)) g F1 l q g2 bi F2 f q2) := Lib.hid ⟨⟨t.1.below hbx, t.2.1.below hbx, t.2.2⟩, Chg.of_below hbx, ⟨cell_of_row _ w.heap.size 0 _ 40 _ hh, cell_of_row _ w.heap.size 1 _ 40 _ hh, cell_of_row _ w.heap.size 2 _ 40 _ hh⟩, fun hb => Nat.lt_irrefl _ (t.1.lt _ hb), fun hb => Nat.lt_irrefl _ (t.2.1.lt _ hb)⟩
  have HR := Lib.hid r
  have HL := Lib.hid r.lenl
  have HI := Lib.hid r.1.inr
  have HQ2 : RowKit.Hid (q2.length ≤ 1000) := Lib.hid (by rw [← r.2.2.1.length_eq]; exact hm)
  clear t r hbx hh
  go_enter Try.func18, Try.ntmps18
  go_upto_region 1 with fail
  generalize w.alloc (.cells #[.int .i64 c0, .int .i64 c1, .int .i64 c2] 40) = w0 at *
  generalize w.heap.size = B at *
  obtain ⟨k0, k1, k2⟩ := HS0.out.2.2.1
  by_cases h01 : c0 = 0 ∨ c0 = 1
  · have HE := Lib.hid (HR.out.askn c1 c2)
    rcases h01 with rfl | rfl
    all_goals
      go_wp2_with fail
      refine (ask_any g F1 l q c1 c2 w0 HS0.out.1.1 (by have := HL.out; omega) (by omega) HI.out).mono ?_
      rintro e w1 ⟨rfl, F1', hc1, hm1⟩
      have HS1 := Lib.hid (HS0.out.m hc1 hm1)
      clear hc1 hm1 HS0 k0 k1 k2
      obtain ⟨k0, k1, k2⟩ := HS1.out.2.2.1
      go_wp2_with fail
      refine (rask_any g2 bi F2 f q2 c1 c2 w1 HS1.out.1.2.1 (by have := HQ2.out; omega)).mono ?_
      rintro e w2 ⟨rfl, F2', hc2, hm2⟩
      have HS2 := Lib.hid (HS1.out.x hc2 hm2)
      clear hc2 hm2 HS1 k0 k1 k2
      rw [HE.out]
      generalize wrg c1 c2 = wv at *
      generalize raskn f c1 c2 = nv at *
      go_wp2_with fail
      refine bodyPost_ret (results_tmp rfl _ _ _) rfl ⟨by simp, F1', F2', l, _, f, _, HS2.out.1, HS2.out.2.1, HR.out.ask c1 c2, askq_length q c1 c2, fun i _ => rfl⟩

  · have d0 : (c0 == 0) = false := by rw [beq_eq_false_iff_ne]; omega
    have d1 : (c0 == 1) = false := by rw [beq_eq_false_iff_ne]; omega
    by_cases h23 : c0 = 2 ∨ c0 = 3
    · clear h01
      rcases h23 with rfl | rfl
      all_goals
        have HE := Lib.hid (HR.out.addn c1 c2)
        have HD := Lib.hid (HR.out.done c1 c2)
        go_wp2_with fail
        refine (add_any g F1 l q c1 c2 w0 HS0.out.1.1 (by have := HL.out; omega) (by omega) HI.out).mono ?_
        rintro e w1 ⟨rfl, F1', hc1, hm1⟩
        have HS1 := Lib.hid (HS0.out.m hc1 hm1)
        clear hc1 hm1 HS0 k0 k1 k2
        obtain ⟨k0, k1, k2⟩ := HS1.out.2.2.1
        go_wp2_with fail
        refine (rdone_any g2 bi F2 f q2 c1 c2 true w1 HS1.out.1.2.1 (by have := HQ2.out; omega)).mono ?_
        rintro e w2 ⟨rfl, F2', q2', hc2, hm2, hr2⟩
        have HS2 := Lib.hid (HS1.out.x hc2 hm2)
        have HR2 := Lib.hid (HR.out.add c1 c2 hr2)
        clear hc2 hm2 hr2 HS1 k0 k1 k2
        rw [HE.out, HD.out]
        generalize done q2 c1 c2 = dv at *
        generalize rdonen f q2 c1 c2 true = nv at *
        go_wp2_with fail
        refine bodyPost_ret (results_tmp rfl _ _ _) rfl ⟨by simp, F1', F2', _, _, _, q2', HS2.out.1, HS2.out.2.1, HR2.out, Nat.le_trans (doneq_length q c1 c2) (Nat.le_succ _), fun i hi => addf_out hi⟩

    · have d2 : (c0 == 2) = false := by rw [beq_eq_false_iff_ne]; omega
      have d3 : (c0 == 3) = false := by rw [beq_eq_false_iff_ne]; omega
      by_cases h4 : c0 = 4
      · subst h4
        clear h01 h23
        have HD := Lib.hid (HR.out.done c1 c2)
        go_wp2_with fail
        refine (rdone_any g2 bi F2 f q2 c1 c2 false w0 HS0.out.1.2.1 (by have := HQ2.out; omega)).mono ?_
        rintro e w1 ⟨rfl, F2', q2', hc1, hm1, hr1⟩
        have HS1 := Lib.hid (HS0.out.x hc1 hm1)
        have HR1 := Lib.hid (HR.out.abort c1 c2 hr1)
        clear hc1 hm1 hr1 HS0 k0 k1 k2
        obtain ⟨k0, k1, k2⟩ := HS1.out.2.2.1
        go_wp2_with fail
        refine (abort_any g F1 l q c1 c2 w1 HS1.out.1.1 (by omega)).mono ?_
        rintro e w2 ⟨rfl, F1', hc2, hm2⟩
        have HS2 := Lib.hid (HS1.out.m hc2 hm2)
        clear hc2 hm2 HS1 k0 k1 k2
        rw [HD.out]
        generalize done q2 c1 c2 = dv at *
        go_wp2_with fail
        refine bodyPost_ret (results_tmp rfl _ _ _) rfl ⟨by simp, F1', F2', _, _, _, q2', HS2.out.1, HS2.out.2.1, HR1.out, Nat.le_trans (doneq_length q c1 c2) (Nat.le_succ _), fun i hi => addf_out hi⟩

      · have d4 : (c0 == 4) = false := by rw [beq_eq_false_iff_ne]; omega
        by_cases h5 : c0 = 5
        · subst h5
          clear h01 h23 h4
          have HE := Lib.hid (HR.out.deln c1 c2)
          have HD := Lib.hid (HR.out.dele c1 c2)
          go_wp2_with fail
          refine (del_any g F1 l q c1 c2 w0 HS0.out.1.1 (by have := HL.out; omega) (by omega) HI.out HR.out.2.2.2).mono ?_
          rintro e w1 ⟨rfl, F1', hc1, hm1⟩
          have HS1 := Lib.hid (HS0.out.m hc1 hm1)
          clear hc1 hm1 HS0 k0 k1 k2
          obtain ⟨k0, k1, k2⟩ := HS1.out.2.2.1
          go_wp2_with fail
          refine (rdel_any g2 bi F2 f q2 c1 c2 w1 HS1.out.1.2.1 (by have := HQ2.out; omega)).mono ?_
          rintro e w2 ⟨rfl, hc2, hm2⟩
          have HS2 := Lib.hid (HS1.out.x hc2 hm2)
          have HR2 := Lib.hid (HR.out.del c1 c2)
          clear hc2 hm2 HS1 k0 k1 k2
          rw [HE.out, HD.out]
          generalize dele q2 c1 c2 = dv at *
          generalize rdeln f q2 c1 c2 = nv at *
          go_wp2_with fail
          refine bodyPost_ret (results_tmp rfl _ _ _) rfl ⟨by simp, F1', F2, _, _, _, q2, HS2.out.1, HS2.out.2.1, HR2.out, Nat.le_succ _, fun i hi => delf_out hi⟩

        · have d5 : (c0 == 5) = false := by rw [beq_eq_false_iff_ne]; omega
          clear h01 h23 h4 h5
          have HE := Lib.hid (HR.out.askn c1 c2)
          go_wp2_with fail
          refine (ask_any g F1 l q c1 c2 w0 HS0.out.1.1 (by have := HL.out; omega) (by omega) HI.out).mono ?_
          rintro e w1 ⟨rfl, F1', hc1, hm1⟩
          have HS1 := Lib.hid (HS0.out.m hc1 hm1)
          clear hc1 hm1 HS0 k0 k1 k2
          obtain ⟨k0, k1, k2⟩ := HS1.out.2.2.1
          go_wp2_with fail
          refine (rask_any g2 bi F2 f q2 c1 c2 w1 HS1.out.1.2.1 (by have := HQ2.out; omega)).mono ?_
          rintro e w2 ⟨rfl, F2', hc2, hm2⟩
          have HS2 := Lib.hid (HS1.out.x hc2 hm2)
          clear hc2 hm2 HS1 k0 k1 k2
          obtain ⟨k0, k1, k2⟩ := HS2.out.2.2.1
          rw [HE.out]
          have HR2 := Lib.hid (HR.out.ask c1 c2)
          have HQL := Lib.hid (askq_length q c1 c2)
          have HQL2 := Lib.hid (askq_length q2 c1 c2)
          have HE2 := Lib.hid (HR2.out.addn c1 c2)
          have HD2 := Lib.hid (HR2.out.done c1 c2)
          have HADN := Lib.hid (fun h => @ask_addn l q c1 c2 h)
          obtain ⟨wv, hwv⟩ : ∃ wv, wrg c1 c2 = wv := ⟨_, rfl⟩
          obtain ⟨nv, hnv⟩ : ∃ nv, raskn f c1 c2 = nv := ⟨_, rfl⟩
          have HWV := Lib.hid hwv
          have HNV := Lib.hid hnv
          rw [hwv, hnv]
          clear hwv hnv
          have x1 : (nv != nv) = false := by simp
          have x2 : (wv != wv) = false := by simp
          go_wp2_with fail
          refine (add_any g F1' l (askq q c1 c2) c1 c2 w2 HS2.out.1.1 (by have := HL.out; omega) (by have := HQL.out; omega) HI.out).mono ?_
          rintro e w3 ⟨rfl, F1y, hc3, hm3⟩
          have HS3 := Lib.hid (HS2.out.m hc3 hm3)
          clear hc3 hm3 HS2 k0 k1 k2
          obtain ⟨k0, k1, k2⟩ := HS3.out.2.2.1
          go_wp2_with fail
          refine (rdone_any g2 bi F2' f (askq q2 c1 c2) c1 c2 true w3 HS3.out.1.2.1 (by have := HQL2.out; have := HQ2.out; omega)).mono ?_
          rintro e w4 ⟨rfl, F2y, q2y, hc4, hm4, hr4⟩
          have HS4 := Lib.hid (HS3.out.x hc4 hm4)
          have HR4 := Lib.hid (HR2.out.add c1 c2 hr4)
          clear hc4 hm4 hr4 HS3 k0 k1 k2
          rw [← HE2.out, ← HD2.out]
          have HF : RowKit.Hid (DoPost w (F1 ++ F2) g g2 bi l q f c1 c2 w4) := Lib.hid ⟨F1y, F2y, _, _, _, q2y, HS4.out.1, HS4.out.2.1, HR4.out, Nat.le_trans (doneq_length _ c1 c2) HQL.out, fun i hi => addf_out hi⟩
          by_cases hz : wv = 0
          · have ha : addn l (askq q c1 c2) c1 c2 = nv := by rw [HADN.out (HWV.out.trans hz), HE.out, HNV.out]
            rw [ha]
            subst hz
            generalize done (askq q c1 c2) c1 c2 = dv at *
            clear ha
            go_wp2_with fail
            exact bodyPost_ret (results_tmp rfl _ _ _) rfl ⟨by simp, HF.out⟩
          · have hz' : (wv != 0) = true := by rw [bne_iff_ne]; exact hz
            generalize done (askq q c1 c2) c1 c2 = dv at *
            generalize addn l (askq q c1 c2) c1 c2 = av at *
            clear hz
            go_wp2_with fail
            exact bodyPost_ret (results_tmp rfl _ _ _) rfl ⟨by simp, HF.out⟩


end Go.Proofs.Ytnakmjajpfilgaa
