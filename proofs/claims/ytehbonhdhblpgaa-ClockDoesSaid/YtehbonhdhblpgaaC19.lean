/- Parts of the proofs of layer 25 (clock): contracts of its functions, and the laws' walks. -/
import Derived.Test.YtehbonhdhblpgaaProg
import Derived.WalkKit
import Derived.WalkSpells
import Derived.WalkLawsBesides
import Derived.BigQuiet
import Derived.Deep.QuietTactic
import Derived.Lib.Hide
import Derived.Deep.RegionHeld3
import Derived.Deep.DeepCutAuto
import Derived.KernelRfl
import Derived.Deep.OwnRows
import Derived.Laws.CopyOwn
import Derived.Laws.CopyRow
import Derived.StillTailTactics
import Derived.Deep.RegionLaw
import Derived.Test.YtehbonhdhblpgaaC18
namespace Go.Proofs.Ytehbonhdhblpgaa
open Go.RowKit
set_option linter.unusedVariables false
set_option linter.unusedSimpArgs false

theorem Sq.set_other {w : World} {e : TypeId} {sz : Nat} {v : Value} {n : Nat} {xs : List Value} (h : Sq w e sz v n xs) {c : Nat} (hc : c ∉ vblk v) (j : Nat) (u : Value) : Sq (w.setCell ⟨c, j, none⟩ u) e sz v n xs :=
  h.of_blocks fun b hb => Below.heap_setCell _ _ _ _ (fun e => hc (by cases e; exact hb))
theorem vblk_mem {ao : Option Addr} {n c : Nat} {x : Nat} {v : Value} (h : x ∈ vblk v) (hs : Sep (vblk v) [c, n]) : x ≠ c ∧ x ≠ n := ⟨fun e => hs x h (by simp [e]), fun e => hs x h (by simp [e])⟩
/-- The reference's struct and ring, the ring in block b. -/
def Rg (w : World) (g b N cap : Nat) (L : List K) (h : Nat) : Prop := w.heap[g]? = some (.cells #[.slice (some ⟨b, 0, none⟩) N cap, .int .i64 (h : Nat)] 42 (0, 0)) ∧ Sq w 45 4 (.slice (some ⟨b, 0, none⟩) N cap) N (kc L)
theorem Rg.cells {w : World} {g b N cap : Nat} {L : List K} {h : Nat} (r : Rg w g b N cap L h) : w.cell? ⟨g, 0, none⟩ = some (.slice (some ⟨b, 0, none⟩) N cap) ∧ w.cell? ⟨g, 1, none⟩ = some (.int .i64 (h : Nat)) ∧ w.frozen? ⟨g, 1, none⟩ = false :=
  ⟨cell_of_row w g 0 _ 42 _ r.1, cell_of_row w g 1 _ 42 _ r.1, frozen_of_row w g 1 _ 42 r.1⟩
theorem Rg.key {w : World} {g b N cap : Nat} {L : List K} {h : Nat} (r : Rg w g b N cap L h) {i : Nat} {k : K} (hk : L[i]? = some k) :
    w.cell? ⟨b, i * 4, none⟩ = some (.int .i64 k.s) ∧ w.cell? ⟨b, i * 4 + 1, none⟩ = some (.int .i64 k.p) ∧ w.cell? ⟨b, i * 4 + 2, none⟩ = some (.bool k.t) ∧ w.cell? ⟨b, i * 4 + 3, none⟩ = some (.int .i64 k.a) ∧ w.frozen? ⟨b, i * 4 + 2, none⟩ = false ∧ w.frozen? ⟨b, i * 4 + 3, none⟩ = false := by
  obtain ⟨g0, g1, g2, g3⟩ := kc_get L i k hk
  rcases r.2.cases with ⟨h, _⟩ | ⟨b', cap', hv, _, _, _, hcell, hfz⟩
  · cases h
  · cases hv
    exact ⟨hcell _ _ g0, hcell _ _ g1, hcell _ _ g2, hcell _ _ g3, hfz _, hfz _⟩
theorem Rg.hand {w : World} {g b N cap : Nat} {L : List K} {h : Nat} (r : Rg w g b N cap L h) (hg : g ≠ b) (h' : Nat) : Rg (w.setCell ⟨g, 1, none⟩ (.int .i64 (h' : Nat))) g b N cap L h' :=
  ⟨heap_setCell_same _ g 1 _ 42 _ r.1, r.2.set_other (by simpa [vblk_some] using hg) _ _⟩
theorem Rg.store {w : World} {g b N cap : Nat} {L L' : List K} {h : Nat} (r : Rg w g b N cap L h) (hg : g ≠ b) (j : Nat) (u : Value) (hs : (kc L).set j u = kc L') : Rg (w.setCell ⟨b, j, none⟩ u) g b N cap L' h :=
  ⟨(Below.heap_setCell _ _ _ _ hg).trans r.1, hs ▸ r.2.stored j u⟩
theorem Rg.chg {w w' : World} {g b N cap : Nat} {L : List K} {h : Nat} {G G' : List Nat} (r : Rg w g b N cap L h) (hc : Chg G G' w w') (h1 : g ∉ G) (h2 : b ∉ G) : Rg w' g b N cap L h :=
  ⟨(hc.block (lt_of_block r.1) h1).trans r.1, r.2.chg hc (fun x hx => by simp [vblk_some] at hx; subst hx; exact h2)⟩
theorem Rg.drew {w : World} {g b N cap : Nat} {L : List K} {h : Nat} (r : Rg w g b N cap L h) : Rg w.drew g b N cap L h := r
theorem kc_set (L : List K) (i : Nat) (k k' : K) (j : Nat) (u : Value) (hj : j < 4) (hk : L[i]? = some k) (e : k'.cs = k.cs.set j u) : (kc L).set (i * 4 + j) u = kc (L.set i k') := flat_set K.cs 4 K.cs_length j u hj k k' e L i hk
/-- Between two rounds. -/
def SwR (R : List K) (age : Int) (w : World) (g b N cap : Nat) (L : List K) (h i : Nat) (o : Value) (l : List S) (W : World) : Prop :=
  Pass R L h i ∧ Rg W g b N cap L h ∧ Sq W 24 2 o l.length (sc l) ∧ l = (R.take i).flatMap (swT age) ∧ Chg [g, b] (g :: b :: vblk o) w W ∧ Sep (vblk o) [g, b]
theorem sep_of {o : Value} {g b : Nat} (h : Sep (vblk o) [g, b]) : g ∉ vblk o ∧ b ∉ vblk o := ⟨fun hm => h g hm (by simp), fun hm => h b hm (by simp)⟩
set_option maxRecDepth 100000 in
set_option maxHeartbeats 8000000 in
theorem rsweep_any (g : Nat) (F : List Nat) (L : List K) (h : Nat) (n age : Int) (w : World) (r : RC w g F L h) (hm : L.length ≤ 900) :
    Calls Try.prog 32 #[.pointer (some ⟨g, 0, none⟩), .int .i64 n, .int .i64 age] w fun e w' => ∃ v L' h', e = .returned v ∧ Told w' v (sweepT (rot L h) n age) ∧ RC w' g F L' h' ∧ rot L' h' = sweepK (rot L h) n ∧ L'.length = L.length ∧ Chg F (F ++ vblk v) w w' ∧ Sep (vblk v) F := by
  have HRC := Lib.hid r
  obtain ⟨v, rfl, h1, h2, h3, h4⟩ := r
  obtain ⟨ao, cap, rfl, hnc, hcm⟩ := h3.slice
  have c0 : w.cell? ⟨g, 0, none⟩ = some (.slice ao L.length cap) := cell_of_row w g 0 _ 42 _ h2
  go_enter Try.func32, Try.ntmps32
  go_wp2_with fail
  obtain ⟨N, hN⟩ : ∃ N, L.length = N := ⟨_, rfl⟩
  have HN := Lib.hid hN
  rcases h3.cases with ⟨hv, h0⟩ | ⟨b, cap', hv, _, _, _, _, _⟩
  · have hL : L = [] := List.eq_nil_of_length_eq_zero h0
    subst hL
    subst hN
    cases hv
    clear HN h3 h4 h2
    go_loopw [7, 8] (fun o s wr => o = .slice none 0 0 ∧ s = .int .i64 ((0 : Nat) : Int) ∧ wr = w) (fun _ s _ => 0)
    case atStart => exact ⟨rfl, rfl, rfl⟩
    case round =>
      obtain ⟨rfl, rfl, rfl⟩ := hrel
      go_wp2_with fail
      refine bodyPost_ret (results_tmp rfl _ _ _) rfl ⟨.slice none 0 0, [], h, rfl, ?_, HRC.out, ?_, rfl, ?_, fun x hx => by simp [vblk_nil] at hx⟩
      · have : sweepT (rot [] h) n age = [] := by simp [sweepT, rot]
        rw [this]
        exact Sq.nil _ _ _
      · simp [sweepK, rot]
      · simp [vblk_nil]; exact Chg.refl _ _
  · cases hv
    have hgb : g ≠ b := by simpa [vblk_some] using h1
    obtain ⟨R, hR⟩ : ∃ R, rot L h = R := ⟨_, rfl⟩
    have hRN : R.length = N := by rw [← hR, rot_length, hN]
    obtain ⟨M, hM⟩ : ∃ M, cnt R n = M := ⟨_, rfl⟩
    have hMi : ∀ i, i < M ↔ i < N ∧ (i : Int) < n := fun i => by rw [← hM, ← hRN]; exact cnt_iff R n i
    have HI : RowKit.Hid (SwR R age w g b N cap L h 0 (.slice none 0 0) [] w) := Lib.hid ⟨hR ▸ Pass.zero h4, ⟨by rw [← hN]; exact h2, by rw [← hN]; exact h3⟩, Sq.nil _ _ _, by simp, by rw [vblk_nil]; exact Chg.refl _ _, fun x hx => by simp [vblk_nil] at hx⟩
    have HRR := Lib.hid hR
    have HRN := Lib.hid hRN
    have HM0 := Lib.hid hM
    have HMI := Lib.hid hMi
    rw [hN] at hm hnc
    clear hN h2 h3 h4 c0 hR hRN hM hMi
    go_loopw [7, 8] (fun o s wr => ∃ (i : Nat) (Li : List K) (hi : Nat) (l : List S), i ≤ M ∧ s = .int .i64 (i : Nat) ∧ RowKit.Hid (SwR R age w g b N cap Li hi i o l wr)) (fun _ s _ => M - (intOf s).toNat)
    case atStart => exact ⟨0, L, h, [], Nat.zero_le _, rfl, HI⟩
    case round =>
      obtain ⟨i, Li, hi, l, hiM, rfl, HS⟩ := hrel
      obtain ⟨c0, c1, f1⟩ := HS.out.2.1.cells
      by_cases hlt : i < M
      · obtain ⟨hiN, hin⟩ := (HMI.out i).1 hlt
        obtain ⟨k, hkR, hkL⟩ := HS.out.1.head (by rw [HRN.out]; exact hiN)
        have hll : l.length ≤ N := by
          rw [HS.out.2.2.2.1]
          exact Nat.le_trans (told_length _ _) (by rw [List.length_take, HRN.out]; omega)
        have hiL := HS.out.1.lt (by rw [HRN.out]; exact hiN)
        have hLN : Li.length = N := by rw [HS.out.1.2.1, HRN.out]
        obtain ⟨P, hP⟩ : ∃ P, (hi + 1) % N = P := ⟨_, rfl⟩
        have hw1 : IntKind.i64.wrap ((hi : Int) + 1) = (hi : Int) + 1 := by rw [IntKind.wrap_i64]; omega
        have hm1 : ((hi : Int) + 1).tmod (N : Int) = (P : Nat) := by rw [← hP]; exact tmod_int hi 1 N
        have hz : ¬ N = 0 := by omega
        have hhI : ((hi : Nat) : Int) < ((N : Nat) : Int) := by omega
        have hiNI : ((i : Nat) : Int) < ((N : Nat) : Int) := by omega
        have HP := Lib.hid hP
        have HKR := Lib.hid hkR
        have HKL := Lib.hid hkL
        have HLN := Lib.hid hLN
        obtain ⟨sg, sb⟩ := sep_of HS.out.2.2.2.2.2
        have HSG := Lib.hid sg
        have HSB := Lib.hid sb
        clear hP hkR hkL hLN hiL sg sb
        go_upto_region 6 with fail
        go_still_tail 14, (by kernel_rfl)
        change wpList _ _ _ _ _ (World.drew _)
        go_upto_region 7 with fail
        have HG := Lib.hid ((HS.out.2.1.hand hgb P).drew)
        have HO := Lib.hid (Sq.drew (HS.out.2.2.1.set_other HSG.out 1 (.int .i64 (P : Nat))))
        have HC := Lib.hid (Chg.drew (HS.out.2.2.2.2.1.setCell g 1 (.int .i64 (P : Nat)) (by simp)))
        clear c0 c1 f1
        generalize (wr.setCell ⟨g, 1, none⟩ (.int .i64 (P : Nat))).drew = w2 at HG HO HC ⊢
        obtain ⟨c0, c1, f1⟩ := HG.out.cells
        obtain ⟨e0, e1, e2, e3, f2, f3⟩ := HG.out.key HKL.out
        by_cases hkt : k.t = true
        · rw [hkt] at e2
          go_upto_region 9 with fail
          have HG3 := Lib.hid (HG.out.store hgb (hi * 4 + 2) (.bool false) (kc_set Li hi k { k with t := false } 2 (.bool false) (by decide) HKL.out rfl))
          have HO3 := Lib.hid (HO.out.set_other HSB.out (hi * 4 + 2) (.bool false))
          have HC3 := Lib.hid (HC.out.setCell b (hi * 4 + 2) (.bool false) (by simp))
          have HK3 : RowKit.Hid ((Li.set hi { k with t := false })[hi]? = some { k with t := false }) := Lib.hid (by rw [List.getElem?_set_self]; exact (List.getElem?_eq_some_iff.1 HKL.out).1)
          clear c0 c1 f1 e0 e1 e2 e3 f2 f3
          generalize (w2.setCell ⟨b, hi * 4 + 2, none⟩ (.bool false)) = w3 at HG3 HO3 HC3 ⊢
          obtain ⟨c0, c1, f1⟩ := HG3.out.cells
          obtain ⟨e0, e1, e2, e3, f2, f3⟩ := HG3.out.key HK3.out
          dsimp only at e3
          go_wp2_with fail
          have HG4 := HG3.out.store hgb (hi * 4 + 3) (.int .i64 0) (kc_set _ hi _ { k with t := false, a := 0 } 3 (.int .i64 0) (by decide) HK3.out rfl)
          rw [List.set_set] at HG4
          have hp := HS.out.1.step HKR.out
          rw [HLN.out, HP.out] at hp
          have hsw : swK k = { k with t := false, a := 0 } := if_pos hkt
          rw [hsw] at hp
          refine ⟨⟨i + 1, _, P, l, hlt, by simp, Lib.hid ⟨hp, HG4, HO3.out.set_other HSB.out _ _, ?_, HC3.out.setCell _ _ _ (by simp), HS.out.2.2.2.2.2⟩⟩, by simp [intOf]; omega⟩
          rw [told_snoc age HKR.out, ← HS.out.2.2.2.1]
          have : swT age k = [] := if_pos hkt
          rw [this, List.append_nil]
        · have hkf : k.t = false := by simpa using hkt
          rw [hkf] at e2
          obtain ⟨q, hq'⟩ : ∃ q, IntKind.i64.wrap (k.a + 1) = q := ⟨_, rfl⟩
          have hq : wrap64 (k.a + 1) = q := by rw [← hq', IntKind.wrap_i64]; unfold wrap64; rfl
          go_upto_region 10 with fail
          go_still_tail 16, (by kernel_rfl)
          change wpList _ _ _ _ _ (World.drew _)
          go_upto_region 11 with fail
          have HQ := Lib.hid hq
          clear hq hq'
          have HG3 := Lib.hid (Rg.drew (HG.out.store hgb (hi * 4 + 3) (.int .i64 q) (kc_set Li hi k { k with a := q } 3 (.int .i64 q) (by decide) HKL.out rfl)))
          have HO3 := Lib.hid (Sq.drew (HO.out.set_other HSB.out (hi * 4 + 3) (.int .i64 q)))
          have HC3 := Lib.hid (Chg.drew (HC.out.setCell b (hi * 4 + 3) (.int .i64 q) (by simp)))
          have HK3 : RowKit.Hid ((Li.set hi { k with a := q })[hi]? = some { k with a := q }) := Lib.hid (by rw [List.getElem?_set_self]; exact (List.getElem?_eq_some_iff.1 HKL.out).1)
          clear c0 c1 f1 e0 e1 e2 e3 f2 f3
          generalize (w2.setCell ⟨b, hi * 4 + 3, none⟩ (.int .i64 q)).drew = w3 at HG3 HO3 HC3 ⊢
          obtain ⟨c0, c1, f1⟩ := HG3.out.cells
          obtain ⟨e0, e1, e2, e3, f2, f3⟩ := HG3.out.key HK3.out
          dsimp only at e0 e1 e3
          have hsw : swK k = { k with a := q } := by unfold swK; rw [if_neg hkt, HQ.out]
          have hp := HS.out.1.step HKR.out
          rw [HLN.out, HP.out, hsw] at hp
          have HPP := Lib.hid hp
          have HSN := Lib.hid (told_snoc age HKR.out)
          clear hp hsw
          by_cases hag : age ≤ q
          · have hT : swT age k = [k.key] := by unfold swT; rw [if_neg hkt, HQ.out, if_pos hag]
            rw [hT, ← HS.out.2.2.2.1] at HSN
            have HOo := HO3.out
            obtain ⟨ao2, cap2, rfl, _, _⟩ := HOo.slice
            have hA : Below w3.heap.size w3 (w3.alloc (.cells #[.int .i64 k.s, .int .i64 k.p] 24)) := (Below.refl _ w3).alloc (Nat.le_refl _) _
            have hown := HOo.below hA
            have hnew := news_alloc w3 #[.int .i64 k.s, .int .i64 k.p] 24
            have hGA := Lib.hid (HG3.out.chg (Chg.of_below (F := []) hA) (by simp) (by simp))
            have HCA := Lib.hid (HC3.out.trans (Chg.of_below hA))
            obtain ⟨i0, hi0, hz0, hz1, hz2⟩ := info_parts (show (Try.prog.info? 24).map (fun i => (i.zero, i.size, i.bytes)) = some (some (.agg #[.int .i64 0, .int .i64 0]), 2, 16) by kernel_rfl)
            clear hA HOo hT
            go_wp2_with (at_builtin; refine wpList_append_any _ rfl (.tmp 90) (.tmp 99) 32 rfl 24 i0 (.agg #[.int .i64 0, .int .i64 0]) 2 16 Try.underlying32 hi0 hz0 hz1 hz2 rfl (by decide) (.slice ao2 l.length cap2) l.length (sc l) rfl hown (some ⟨_, 0, none⟩) 1 1 (sc [k.key]) rfl (fun h => by cases h) rfl (fun a ha => by cases ha; rw [sc_one]; exact hnew) (sc_onecell _) (by unfold maxLen; omega) (by omega) ?_; intro v' w5 hown5 hgr)
            refine ⟨⟨i + 1, _, P, l ++ [k.key], hlt, by simp, Lib.hid ⟨HPP.out, hGA.out.chg hgr HSG.out HSB.out, ?_, HSN.out.symm, HCA.out.trans ((hgr.cons b).cons g), hgr.sep HS.out.2.2.2.2.2 ?_⟩⟩, by simp [intOf]; omega⟩
            · rw [List.length_append, List.length_singleton, sc_append]
              exact hown5
            · intro x hx
              simp at hx
              rcases hx with rfl | rfl
              · exact lt_of_block hGA.out.1
              · exact hGA.out.2.lt _ (by simp [vblk_some])
          · have hT : swT age k = [] := by unfold swT; rw [if_neg hkt, HQ.out, if_neg hag]
            rw [hT, ← HS.out.2.2.2.1, List.append_nil] at HSN
            clear hT
            go_wp2_with fail
            exact ⟨⟨i + 1, _, P, l, hlt, by simp, Lib.hid ⟨HPP.out, HG3.out, HO3.out, HSN.out.symm, HC3.out, HS.out.2.2.2.2.2⟩⟩, by simp [intOf]; omega⟩
      · have hiM2 : i = M := by omega
        subst hiM2
        have hno : ¬ (i < N ∧ (i : Int) < n) := fun q => hlt ((HMI.out i).2 q)
        have HEND : RowKit.Hid (∃ L' h', Told wr u7 (sweepT (rot L h) n age) ∧ RC wr g (g :: vblk (.slice (some ⟨b, 0, none⟩) L.length cap)) L' h' ∧ rot L' h' = sweepK (rot L h) n ∧ L'.length = L.length ∧ Chg (g :: vblk (.slice (some ⟨b, 0, none⟩) L.length cap)) (g :: vblk (.slice (some ⟨b, 0, none⟩) L.length cap) ++ vblk u7) w wr ∧ Sep (vblk u7) (g :: vblk (.slice (some ⟨b, 0, none⟩) L.length cap))) := Lib.hid (by
          obtain ⟨p1, p2, p3, p4, p5, p6⟩ := HS.out
          refine ⟨Li, hi, ?_, ?_, ?_, ?_, ?_, ?_⟩
          · have e : sweepT (rot L h) n age = l := by
              unfold sweepT
              rw [HRR.out, HM0.out]
              exact p4.symm
            rw [e]
            exact p3
          · have hLN : Li.length = N := by rw [p1.2.1, HRN.out]
            refine ⟨.slice (some ⟨b, 0, none⟩) N cap, rfl, by simpa [vblk_some] using hgb, p2.1, ?_, p1.2.2⟩
            rw [hLN]
            exact p2.2
          · rw [HRR.out]
            have := p1.1
            rw [← HM0.out] at this
            exact this
          · rw [p1.2.1, HRN.out, HN.out]
          · exact p5
          · exact p6)
        by_cases hiN : i < N
        · have hin : ¬ (i : Int) < n := fun q => hno ⟨hiN, q⟩
          have hiNI : ((i : Nat) : Int) < ((N : Nat) : Int) := by omega
          clear hno
          go_wp2_with fail
          obtain ⟨L', h', q⟩ := HEND.out
          exact bodyPost_ret (results_tmp rfl _ _ _) rfl ⟨u7, rfl, q.1, L', h', q.2⟩
        · have hiNI : ¬ ((i : Nat) : Int) < ((N : Nat) : Int) := by omega
          clear hno
          go_wp2_with fail
          obtain ⟨L', h', q⟩ := HEND.out
          exact bodyPost_ret (results_tmp rfl _ _ _) rfl ⟨u7, rfl, q.1, L', h', q.2⟩

end Go.Proofs.Ytehbonhdhblpgaa
