/- Parts of the proofs of layer 25 (clock): contracts of its functions, and the laws' walks. -/
import Derived.Test.YtehbonhdhblpgaaProg
import Derived.WalkKit
import Derived.WalkSpells
import Derived.WalkLawsBesides
import Derived.BigQuiet
import Derived.Deep.QuietTactic
import Derived.Lib.Hide
import Derived.Deep.RegionHeld3
import Derived.Deep.DeepCutAuto
import Derived.KernelRfl
import Derived.Deep.OwnRows
import Derived.Laws.CopyOwn
import Derived.Laws.CopyRow
import Derived.StillTailTactics
import Derived.Deep.RegionLaw
import Derived.Test.YtehbonhdhblpgaaC23
namespace Go.Proofs.Ytehbonhdhblpgaa
open Go.RowKit
set_option linter.unusedVariables false
set_option linter.unusedSimpArgs false

/-- The first ones of a row, as a slice of its own. -/
theorem Sq.front {w : World} {e : TypeId} {sz n m cap : Nat} {ao : Option Addr} {xs : List Value} (h : Sq w e sz (.slice ao n cap) n xs) (hm : m ≤ n) (hs : ao ≠ none) : Sq w e sz (.slice ao m cap) m (xs.take (m * sz)) := by
  have hl := h.1
  refine ⟨by rw [List.length_take, hl]; exact Nat.min_eq_left (Nat.mul_le_mul_right _ hm), ?_⟩
  rcases h.2 with ⟨hv, _⟩ | ⟨g, cap', cur, hv, h1, h2, h3, h4, h5, h6⟩
  · cases hv; exact absurd rfl hs
  · cases hv
    refine .inr ⟨g, cap, cur, rfl, h1, h2, Nat.le_trans hm h3, h4, h5, ?_⟩
    rw [← h6, List.take_take, Nat.min_eq_left (Nat.mul_le_mul_right _ hm)]
theorem sc_take (l : List S) (n : Nat) : (sc l).take (n * 2) = sc (l.take n) := by
  induction l generalizing n with
  | nil => simp [sc]
  | cons a l ih =>
    cases n with
    | zero => simp [sc]
    | succ n =>
      rw [List.take_succ_cons, show (n + 1) * 2 = n * 2 + 1 + 1 by omega]
      show ((Value.int .i64 a.s) :: (Value.int .i64 a.p) :: sc l).take (n * 2 + 1 + 1) = (Value.int .i64 a.s) :: (Value.int .i64 a.p) :: sc (l.take n)
      rw [List.take_succ_cons, List.take_succ_cons, ih]
/-- Behind the first call: the program's clock, the spots told, the spot's box. -/
def Ost (w : World) (x : S) (g : Nat) (F : List Nat) (ks : List K) (v : Value) (ys : List S) (W : World) : Prop :=
  Clk W g F ks ∧ Told W v ys ∧ SBox W w.heap.size x ∧ Sep (vblk v) F ∧ (∀ b, b ∈ F → w.heap.size < b) ∧ Below w.heap.size w W
theorem Ost.below {w W W' : World} {x : S} {g : Nat} {F : List Nat} {ks : List K} {v : Value} {ys : List S} (h : Ost w x g F ks v ys W) (hb : Below W.heap.size W W') : Ost w x g F ks v ys W' :=
  ⟨h.1.below hb, h.2.1.below hb, h.2.2.1.below hb, h.2.2.2.1, h.2.2.2.2.1, h.2.2.2.2.2.trans (hb.mono h.2.2.2.2.2.size)⟩
theorem Ost.step {w W W' : World} {x : S} {g : Nat} {F F' : List Nat} {ks ks' : List K} {v : Value} {ys : List S} (h : Ost w x g F ks v ys W) (hc : Chg F F' W W') (hk : Clk W' g F' ks') : Ost w x g F' ks' v ys W' := by
  refine ⟨hk, h.2.1.chg hc h.2.2.2.1, h.2.2.1.chg hc (fun hm => Nat.lt_irrefl _ (h.2.2.2.2.1 _ hm)), (hc.sep h.2.2.2.1.symm h.2.1.lt).symm, fun b hb => ?_, h.2.2.2.2.2.trans (hc.below (fun b hb => Nat.le_of_lt (h.2.2.2.2.1 b hb)) h.2.2.2.2.2.size)⟩
  rcases hc.2.2.2.2.2 b hb with q | q
  · exact h.2.2.2.2.1 b q
  · exact Nat.lt_of_lt_of_le h.2.2.1.lt q
theorem Ost.drew {w W : World} {x : S} {g : Nat} {F : List Nat} {ks : List K} {v : Value} {ys : List S} (h : Ost w x g F ks v ys W) : Ost w x g F ks v ys W.drew := ⟨h.1, h.2.1, h.2.2.1, h.2.2.2.1, h.2.2.2.2.1, ⟨h.2.2.2.2.2.os, h.2.2.2.2.2.tape, h.2.2.2.2.2.output, h.2.2.2.2.2.size, h.2.2.2.2.2.block⟩⟩
theorem delR_keys : ∀ (l : List K) (x : S), (l.map K.key).Nodup → (delR l x).map K.key = (l.map K.key).filter (fun y => decide (y ≠ x))
  | [], _, _ => rfl
  | k :: l, x, hn => by
    rw [List.map_cons, List.nodup_cons] at hn
    unfold delR
    by_cases h : k.key = x
    · rw [if_pos h, List.map_cons, List.filter_cons_of_neg (by simp [h])]
      have : ∀ y ∈ l.map K.key, decide (y ≠ x) = true := fun y hy => by
        simp only [ne_eq, decide_eq_true_eq]
        rintro rfl
        exact hn.1 (h ▸ hy)
      rw [List.filter_eq_self.2 this]
    · rw [if_neg h, List.map_cons, List.map_cons, List.filter_cons_of_pos (by simp [h]), delR_keys l x hn.2]
theorem del_add {ks : List K} {x : S} (h : ¬ idx ks x < ks.length) : delK (addK ks x) x = ks ∧ ecode (addK ks x) x = 0 ∧ addK ks x = ks ++ [⟨x.s, x.p, true, 0⟩] ∧ acode ks x = 0 := by
  have ha : addK ks x = ks ++ [⟨x.s, x.p, true, 0⟩] := if_neg h
  have hno : ¬ ∃ k ∈ ks, k.key = x := fun q => h ((idx_mem ks x).2 q)
  refine ⟨?_, ?_, ha, if_neg h⟩
  · rw [ha, delK_eq, delR_right _ _ _ hno]
    unfold delR
    rw [if_pos (show K.key ⟨x.s, x.p, true, 0⟩ = x from rfl), List.append_nil]
  · rw [ha]
    exact if_pos ((idx_mem _ x).2 ⟨⟨x.s, x.p, true, 0⟩, by simp, rfl⟩)
theorem keep4 {w w' : World} {A B a b : Nat} {p q c d : Value} (h : w.cell? ⟨A, a, none⟩ = some p ∧ w.cell? ⟨A, b, none⟩ = some q ∧ w.cell? ⟨B, 0, none⟩ = some c ∧ w.cell? ⟨B, 1, none⟩ = some d) (hb : Below w.heap.size w w') :
    w'.cell? ⟨A, a, none⟩ = some p ∧ w'.cell? ⟨A, b, none⟩ = some q ∧ w'.cell? ⟨B, 0, none⟩ = some c ∧ w'.cell? ⟨B, 1, none⟩ = some d :=
  ⟨cell_keep hb h.1, cell_keep hb h.2.1, cell_keep hb h.2.2.1, cell_keep hb h.2.2.2⟩
set_option maxRecDepth 100000 in
set_option maxHeartbeats 8000000 in
theorem order_law (ao : Option Addr) (len cap : Nat) (z : Nat → Nat → Int) (x : S) (w : World) (hlc : len ≤ cap) (hcm : cap ≤ maxLen) (hA : Acts w ao len z) :
    Calls Try.prog 5 #[.slice ao len cap, .agg #[.int .i64 x.s, .int .i64 x.p]] w fun e w' => e = .returned (.bool true) ∧ Below w.heap.size w w' := by
  have hb0 : Below w.heap.size w (w.alloc (.cells #[.int .i64 x.s, .int .i64 x.p] 24)) := (Below.refl _ w).alloc (Nat.le_refl _) _
  have hX := heap_alloc_new w (.cells #[.int .i64 x.s, .int .i64 x.p] 24)
  have hA0 := hA.below hb0
  go_enter Try.func5, Try.ntmps5
  go_wp2_with fail
  generalize w.alloc (.cells #[.int .i64 x.s, .int .i64 x.p] 24) = w0 at *
  refine (made_any ao len cap z w0 hlc hcm hA0).mono ?_
  rintro e w1 ⟨g, g2, F1, F2, ks, L, h, rfl, hm1, hb1⟩
  have HM1 := Lib.hid (LSt.of hX hb0 hm1 hb1)
  clear hm1 hb1 hX hb0 hA0 hA
  go_wp2_with fail
  refine (awake_any w1).mono ?_
  rintro e w2 ⟨rfl, hb2⟩
  have HM2 := Lib.hid (HM1.out.below hb2)
  clear hb2 HM1
  obtain ⟨d0, d1⟩ := HM2.out.2.2.1.cells
  go_wp2_with fail
  refine (rall_any g2 F2 L h w2 HM2.out.1.2.1 (by have := HM2.out.2.1.1; have := HM2.out.1.2.2.2.length; omega)).mono ?_
  rintro e w3 ⟨v1, rfl, hv1, hc1⟩
  have hb3 := hc1.below (C := w2.heap.size) (fun b hb => by simp at hb) (Nat.le_refl _)
  rw [← HM2.out.1.2.2.2.keys_all] at hv1
  have HM3 := Lib.hid (HM2.out.below hb3)
  have HO3 : RowKit.Hid (Ost w x g F1 ks v1 (ks.map K.key) w3) := Lib.hid ⟨HM3.out.1.1, hv1, HM3.out.2.2.1, Sep.fresh (n := w2.heap.size) (hc1.ge (fun b hb => by simp at hb) (Nat.le_refl _)) HM2.out.1.1.lt, fun b hb => HM3.out.2.2.2.1 b (by simp [hb]), HM3.out.2.2.2.2⟩
  obtain ⟨ys, hys⟩ : ∃ ys, ks.map K.key = ys := ⟨_, rfl⟩
  obtain ⟨M, hM⟩ : ∃ M, ys.length = M := ⟨_, rfl⟩
  have hM80 : M ≤ 80 := by rw [← hM, ← hys, List.length_map]; exact HM3.out.2.1.1
  rw [hys] at hv1 HO3
  have hsl := Sq.slice hv1
  rw [hM] at hsl
  obtain ⟨aoW, capW, rfl, hnW, hmW⟩ := hsl
  have HYS := Lib.hid hys
  have HMM := Lib.hid hM
  clear hb3 hc1 hv1 HM2 d0 d1 hys hM
  obtain ⟨d0, d1⟩ := HO3.out.2.2.1.cells
  go_wp2_with fail
  refine (at_any g2 F2 L h x w3 HM3.out.1.2.1 (by have := HM3.out.2.1.1; have := HM3.out.1.2.2.2.length; omega)).mono ?_
  rintro e w4 ⟨rfl, hb4⟩
  have HO4 := Lib.hid (HO3.out.below hb4)
  have HL := Lib.hid HM3.out.2.1.1
  have HN := Lib.hid HM3.out.1.2.2.2.2.1
  have HIN : RowKit.Hid (idx ks x < ks.length ↔ idx L x < L.length) := Lib.hid (by rw [HM3.out.1.2.2.2.1]; exact rot_in L h x)
  clear hb4 HO3 HM3 d0 d1
  obtain ⟨d0, d1⟩ := HO4.out.2.2.1.cells
  by_cases hx : idx L x < L.length
  · rw [show ares' L x = (idx L x : Nat) from if_pos hx]
    have HE := Lib.hid (show ecode ks x = 0 from if_pos (HIN.out.2 hx))
    generalize idx L x = j at hx HIN ⊢
    have j1 : decide ((j : Int) < 0) = false := decide_eq_false (by omega)
    go_wp2_with fail
    refine (del_any g F1 ks x w4 HO4.out.1 (by have := HL.out; omega)).mono ?_
    rintro e w5 ⟨rfl, F1', hc5, hk5⟩
    rw [HE.out]
    have HO5 := Lib.hid (HO4.out.step hc5 hk5)
    clear hc5 hk5 HO4 d0 d1
    obtain ⟨d0, d1⟩ := HO5.out.2.2.1.cells
    go_wp2_with fail
    go_loopw [10, 11] (fun o s wr => ∃ (i : Nat) (l : List S), i ≤ M ∧ s = .int .i64 (i : Nat) ∧ l.length ≤ i ∧ RowKit.Hid (l = (ys.take i).filter (fun y => decide (y ≠ x)) ∧ Sq wr 24 2 o l.length (sc l) ∧ Chg [] (vblk o) w5 wr)) (fun _ s _ => M - (intOf s).toNat)
    case atStart => exact ⟨0, [], Nat.zero_le _, rfl, Nat.le_refl _, Lib.hid ⟨by simp, Sq.nil _ _ _, by rw [vblk_nil]; exact Chg.refl _ _⟩⟩
    case round =>
      obtain ⟨i, l, hi, rfl, hll, HR⟩ := hrel
      have hbr : Below w5.heap.size w5 wr := HR.out.2.2.below (fun b hb => by simp at hb) (Nat.le_refl _)
      by_cases hlt : i < M
      · obtain ⟨bv, cv, hvv, hbv, hcell⟩ := (HO5.out.2.1.below hbr).read (by intro e; have := HMM.out; rw [e] at this; simp at this; omega)
        rw [HMM.out] at hvv
        cases hvv
        have hy := List.getElem?_eq_getElem (show i < ys.length by rw [HMM.out]; exact hlt)
        generalize ys[i]'(by rw [HMM.out]; exact hlt) = y at hy
        obtain ⟨v0, v1⟩ := hcell i y hy
        replace d0 := cell_keep hbr d0
        replace d1 := cell_keep hbr d1
        have hki : ((i : Nat) : Int) < ((M : Nat) : Int) := by omega
        have HS := Lib.hid (take_succ' _ i y hy)
        have HBR := Lib.hid hbr
        clear hcell hy hbr
        by_cases hyx : y = x
        · subst hyx
          have HR2 : RowKit.Hid (l = (ys.take (i + 1)).filter (fun z => decide (z ≠ y)) ∧ Sq wr 24 2 u10 l.length (sc l) ∧ Chg [] (vblk u10) w5 wr) := Lib.hid ⟨by rw [HS.out, List.filter_append, ← HR.out.1]; simp, HR.out.2⟩
          clear HR
          go_wp2_with fail
          go_quiet (fail)
          go_wp2_with fail
          exact ⟨⟨i + 1, l, hlt, by simp, by omega, Lib.hid ⟨HR2.out.1, Sq.drewN HR2.out.2.1 _, Chg.drewN HR2.out.2.2 _⟩⟩, by simp [intOf]; omega⟩
        · have HLS : RowKit.Hid (l ++ [y] = (ys.take (i + 1)).filter (fun z => decide (z ≠ x))) := Lib.hid (by rw [HS.out, List.filter_append, ← HR.out.1]; simp [hyx])
          have hps : ¬ (y.s = x.s ∧ y.p = x.p) := fun q => hyx (by cases y; cases x; simp_all)
          have HQ := HR.out.2.1
          obtain ⟨ao2, cap2, rfl, _, _⟩ := HQ.slice
          have HRR := Lib.hid (And.intro HQ HR.out.2.2)
          clear HR HQ hyx
          obtain ⟨i0, hi0, hz0, hz1, hz2⟩ := info_parts (show (Try.prog.info? 24).map (fun i => (i.zero, i.size, i.bytes)) = some (some (.agg #[.int .i64 0, .int .i64 0]), 2, 16) by kernel_rfl)
          obtain ⟨ya, yb⟩ := y
          dsimp only at v0 v1 hps
          by_cases hs : ya = x.s
          · have hp : ¬ yb = x.p := fun q => hps ⟨hs, q⟩
            subst hs
            clear hps
            go_wp2_with fail
            go_quiet (fail)
            have HQ2 : RowKit.Hid (Sq (wr.drewN nq) 24 2 (.slice ao2 l.length cap2) l.length (sc l) ∧ Chg [] (vblk (.slice ao2 l.length cap2)) w5 (wr.drewN nq)) := Lib.hid ⟨Sq.drewN HRR.out.1 nq, Chg.drewN HRR.out.2 nq⟩
            replace v0 : (wr.drewN nq).cell? ⟨bv, i * 2, none⟩ = some (.int .i64 x.s) := v0
            replace v1 : (wr.drewN nq).cell? ⟨bv, i * 2 + 1, none⟩ = some (.int .i64 yb) := v1
            clear d0 d1 HRR
            generalize wr.drewN nq = wq at HQ2 v0 v1 ⊢
            have hA2 : Below wq.heap.size wq (wq.alloc (.cells #[.int .i64 x.s, .int .i64 yb] 24)) := (Below.refl _ _).alloc (Nat.le_refl _) _
            have hown := Sq.below HQ2.out.1 hA2
            have hnew := news_alloc wq #[.int .i64 x.s, .int .i64 yb] 24
            have HC := Lib.hid (HQ2.out.2.trans (Chg.of_below hA2))
            clear hA2
            go_wp2_with (at_builtin; refine wpList_append_any _ rfl (.tmp 87) (.tmp 92) 32 rfl 24 i0 (.agg #[.int .i64 0, .int .i64 0]) 2 16 Try.underlying32 hi0 hz0 hz1 hz2 rfl (by decide) (.slice ao2 l.length cap2) l.length (sc l) rfl hown (some ⟨_, 0, none⟩) 1 1 (sc [⟨x.s, yb⟩]) rfl (fun h => by cases h) rfl (fun a ha => by cases ha; rw [sc_one]; exact hnew) (sc_onecell _) (by unfold maxLen; omega) (by omega) ?_; intro v' w9 hown9 hgr)
            exact ⟨⟨i + 1, l ++ [⟨x.s, yb⟩], hlt, by simp, by rw [List.length_append, List.length_singleton]; omega, Lib.hid ⟨HLS.out, by rw [List.length_append, List.length_singleton, sc_append]; exact hown9, HC.out.trans hgr⟩⟩, by simp [intOf]; omega⟩
          · clear hps
            go_wp2_with fail
            go_quiet (fail)
            have HQ2 : RowKit.Hid (Sq (wr.drewN nq) 24 2 (.slice ao2 l.length cap2) l.length (sc l) ∧ Chg [] (vblk (.slice ao2 l.length cap2)) w5 (wr.drewN nq)) := Lib.hid ⟨Sq.drewN HRR.out.1 nq, Chg.drewN HRR.out.2 nq⟩
            replace v0 : (wr.drewN nq).cell? ⟨bv, i * 2, none⟩ = some (.int .i64 ya) := v0
            replace v1 : (wr.drewN nq).cell? ⟨bv, i * 2 + 1, none⟩ = some (.int .i64 yb) := v1
            clear d0 d1 HRR
            generalize wr.drewN nq = wq at HQ2 v0 v1 ⊢
            have hA2 : Below wq.heap.size wq (wq.alloc (.cells #[.int .i64 ya, .int .i64 yb] 24)) := (Below.refl _ _).alloc (Nat.le_refl _) _
            have hown := Sq.below HQ2.out.1 hA2
            have hnew := news_alloc wq #[.int .i64 ya, .int .i64 yb] 24
            have HC := Lib.hid (HQ2.out.2.trans (Chg.of_below hA2))
            clear hA2
            go_wp2_with (at_builtin; refine wpList_append_any _ rfl (.tmp 87) (.tmp 92) 32 rfl 24 i0 (.agg #[.int .i64 0, .int .i64 0]) 2 16 Try.underlying32 hi0 hz0 hz1 hz2 rfl (by decide) (.slice ao2 l.length cap2) l.length (sc l) rfl hown (some ⟨_, 0, none⟩) 1 1 (sc [⟨ya, yb⟩]) rfl (fun h => by cases h) rfl (fun a ha => by cases ha; rw [sc_one]; exact hnew) (sc_onecell _) (by unfold maxLen; omega) (by omega) ?_; intro v' w9 hown9 hgr)
            exact ⟨⟨i + 1, l ++ [⟨ya, yb⟩], hlt, by simp, by rw [List.length_append, List.length_singleton]; omega, Lib.hid ⟨HLS.out, by rw [List.length_append, List.length_singleton, sc_append]; exact hown9, HC.out.trans hgr⟩⟩, by simp [intOf]; omega⟩
      · have hiN : i = M := by omega
        subst hiN
        have hl := HR.out.1
        rw [List.take_of_length_le (by rw [HMM.out]; exact Nat.le_refl _), ← HYS.out, ← delR_keys ks x HN.out, ← delK_eq] at hl
        have HR2 : RowKit.Hid (l = (delK ks x).map K.key ∧ Sq wr 24 2 u10 l.length (sc l)) := Lib.hid ⟨hl, HR.out.2.1⟩
        have HO6 := Lib.hid (HO5.out.below hbr)
        clear HR hl hbr d0 d1
        go_wp2_with fail
        refine (all_any g F1' (delK ks x) wr HO6.out.1 (by have := delK_length ks x; have := HL.out; omega)).mono ?_
        rintro e w7 ⟨v2, rfl, hv2, hc7⟩
        have hb7 := hc7.below (C := wr.heap.size) (fun b hb => by simp at hb) (Nat.le_refl _)
        have hw := HR2.out.2.below hb7
        have HO7 := Lib.hid (HO6.out.below hb7)
        go_wp2_with fail
        refine (same_any v2 u10 ((delK ks x).map K.key) ((delK ks x).map K.key) w7 hv2 (by rw [← HR2.out.1]; exact hw) (by rw [List.length_map]; have := delK_length ks x; have := HL.out; omega)).mono ?_
        rintro e w8 ⟨rfl, hb8⟩
        have HO8 := Lib.hid (HO7.out.below hb8)
        clear hv2 hc7 hb7 hw hb8
        go_wp2_with fail
        exact bodyPost_ret (results_tmp rfl _ _ _) rfl ⟨by simp, HO8.out.2.2.2.2.2⟩
  · rw [show ares' L x = -1 from if_neg hx]
    obtain ⟨y1, y2, y3, y4⟩ := del_add (fun q => hx (HIN.out.1 q))
    have Y1 := Lib.hid y1
    have Y2 := Lib.hid y2
    have Y3 := Lib.hid y3
    have Y4 := Lib.hid y4
    clear y1 y2 y3 y4
    go_wp2_with fail
    refine (add_any g F1 ks x w4 HO4.out.1 (by have := HL.out; omega)).mono ?_
    rintro e w5 ⟨rfl, F1', hc5, hk5⟩
    rw [Y4.out]
    have HO5 := Lib.hid (HO4.out.step hc5 hk5)
    clear hc5 hk5 HO4 d0 d1
    have hal : (addK ks x).length = ks.length + 1 := by rw [Y3.out]; simp
    have HAL := Lib.hid hal
    clear hal
    go_wp2_with fail
    refine (all_any g F1' (addK ks x) w5 HO5.out.1 (by have := HL.out; have := HAL.out; omega)).mono ?_
    rintro e w6 ⟨v2, rfl, hv2, hc6⟩
    have hb6 := hc6.below (C := w5.heap.size) (fun b hb => by simp at hb) (Nat.le_refl _)
    have HO6 := Lib.hid (HO5.out.below hb6)
    clear hb6 hc6 HO5
    have hkeys : (addK ks x).map K.key = ys ++ [x] := by rw [Y3.out, List.map_append, HYS.out]; rfl
    rw [hkeys] at hv2
    clear hkeys
    have hlen1 : (ys ++ [x]).length = M + 1 := by rw [List.length_append, HMM.out]; rfl
    obtain ⟨bv, cv, rfl, hbv, hcell⟩ := hv2.read (by simp)
    rw [hlen1] at hv2 ⊢
    obtain ⟨v0, v1⟩ := hcell M x (by rw [← HMM.out]; simp)
    have hfr : Told w6 (.slice (some ⟨bv, 0, none⟩) M cv) ys := by
      have hv3 : Sq w6 24 2 (.slice (some ⟨bv, 0, none⟩) (M + 1) cv) (M + 1) (sc (ys ++ [x])) := by
        have := hv2
        unfold Told at this
        rw [hlen1] at this
        exact this
      have := hv3.front (m := M) (by omega) (by simp)
      rw [sc_take, ← HMM.out, List.take_left' rfl] at this
      rw [← HMM.out]
      exact this
    have HFR := Lib.hid hfr
    have HV := Lib.hid hv2
    obtain ⟨_, hncv, hcmv⟩ : True ∧ M + 1 ≤ cv ∧ cv ≤ maxLen := by
      obtain ⟨a, c, e, h1, h2⟩ := Sq.slice (show Sq w6 24 2 (.slice (some ⟨bv, 0, none⟩) (M + 1) cv) (M + 1) _ from by have := hv2; unfold Told at this; rw [hlen1] at this; exact this)
      cases e
      exact ⟨trivial, h1, h2⟩
    clear hcell hfr hv2 hlen1 hnW
    obtain ⟨d0, d1⟩ := HO6.out.2.2.1.cells
    have hsub : IntKind.i64.wrap (((M + 1 : Nat) : Int) - 1) = (M : Int) := by rw [IntKind.wrap_i64]; omega
    have hsub2 : IntKind.i64.wrap ((M : Int) + 1 - 1) = (M : Int) := by rw [IntKind.wrap_i64]; omega
    have hMcv : M ≤ cv := by omega
    have hMcv2 : ((M : Nat) : Int) ≤ ((cv : Nat) : Int) := by omega
    have hwM : IntKind.i64.wrap (M : Int) = (M : Int) := by rw [IntKind.wrap_i64]; omega
    have hadd : IntKind.i64.wrap ((M : Int) + 1) = ((M + 1 : Nat) : Int) := by rw [IntKind.wrap_i64]; omega
    have hmI : ((M : Nat) : Int) < ((M + 1 : Nat) : Int) := by omega
    have hmI2 : (M : Int) < (M : Int) + 1 := by omega
    have hm0 : (0 : Int) ≤ (M : Int) := by omega
    go_upto_region 9 with fail
    go_region_held3 (fun w' => w'.cell? ⟨bv, M * 2, none⟩ = some (.int .i64 x.s) ∧ w'.cell? ⟨bv, M * 2 + 1, none⟩ = some (.int .i64 x.p) ∧ w'.cell? ⟨w.heap.size, 0, none⟩ = some (.int .i64 x.s) ∧ w'.cell? ⟨w.heap.size, 1, none⟩ = some (.int .i64 x.p))
      (first | exact keep4 (by assumption) hba | exact ⟨v0, v1, d0, d1⟩ | go_keep)
      (first
        | (go_at_call 20; refine (same_any (.slice (some ⟨bv, 0, none⟩) M cv) (.slice aoW M capW) ys ys w6.drew (show Told w6.drew _ _ from HFR.out) HO6.out.drew.2.1 (by have := HMM.out; omega)).mono ?_; rintro e wa ⟨rfl, hba⟩))
    have HO7 := Lib.hid (HO6.out.drew.below hba)
    obtain ⟨d0, d1⟩ := HO7.out.2.2.1.cells
    clear hba HO6
    go_wp2_with fail
    refine (del_any g F1' (addK ks x) x wa HO7.out.1 (by have := HL.out; have := HAL.out; omega)).mono ?_
    rintro e w8 ⟨rfl, F1x, hc8, hk8⟩
    rw [Y2.out]
    rw [Y1.out] at hk8
    have HO8 := Lib.hid (HO7.out.step hc8 hk8)
    clear hc8 hk8 HO7 d0 d1
    go_wp2_with fail
    refine (all_any g F1x ks w8 HO8.out.1 (by have := HL.out; omega)).mono ?_
    rintro e w9 ⟨v3, rfl, hv3, hc9⟩
    have hb9 := hc9.below (C := w8.heap.size) (fun b hb => by simp at hb) (Nat.le_refl _)
    have HO9 := Lib.hid (HO8.out.below hb9)
    rw [HYS.out] at hv3
    have HV3 := Lib.hid hv3
    clear hb9 hc9 hv3 HO8
    go_wp2_with fail
    refine (same_any v3 (.slice aoW M capW) ys ys w9 HV3.out HO9.out.2.1 (by have := HMM.out; omega)).mono ?_
    rintro e w10 ⟨rfl, hb10⟩
    have HO10 := Lib.hid (HO9.out.below hb10)
    clear hb10
    go_wp2_with fail
    exact bodyPost_ret (results_tmp rfl _ _ _) rfl ⟨by simp, HO10.out.2.2.2.2.2⟩

end Go.Proofs.Ytehbonhdhblpgaa
