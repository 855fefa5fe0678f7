/- Parts of the proofs of layer 25 (clock): contracts of its functions, and the laws' walks. -/
import Derived.Test.YtehbonhdhblpgaaProg
import Derived.WalkKit
import Derived.WalkSpells
import Derived.WalkLawsBesides
import Derived.BigQuiet
import Derived.Deep.QuietTactic
import Derived.Lib.Hide
import Derived.Deep.RegionHeld3
import Derived.Deep.DeepCutAuto
import Derived.KernelRfl
import Derived.Deep.OwnRows
import Derived.Laws.CopyOwn
import Derived.Laws.CopyRow
import Derived.StillTailTactics
import Derived.Deep.RegionLaw
import Derived.Test.YtehbonhdhblpgaaC24
namespace Go.Proofs.Ytehbonhdhblpgaa
open Go.RowKit
set_option linter.unusedVariables false
set_option linter.unusedSimpArgs false

theorem Sq.made (w : World) (z : Value) (n : Nat) (t : TypeId) (hn : n ≤ maxLen) : Sq (w.alloc (.cells (madeCells #[z] n) t)) t 1 (.slice (some ⟨w.heap.size, 0, none⟩) n n) n (List.replicate n z) := by
  have h := Sq.lit w (madeCells #[z] n) t 1 n hn (by rw [size_madeCells]; omega)
  rw [toList_madeCells_one] at h
  exact h
theorem sweep_all (ks : List K) : sweepK ks (ks.length : Nat) = ks.map swK ∧ cnt ks (ks.length : Nat) = ks.length := by
  have hc : cnt ks (ks.length : Nat) = ks.length := by unfold cnt; split <;> omega
  refine ⟨?_, hc⟩
  unfold sweepK
  rw [hc, List.drop_length, List.take_length, List.nil_append]
theorem swK_t (k : K) : (swK k).t = false := by
  unfold swK
  split
  · rfl
  · rename_i h; simpa using h
theorem swK_keys (ks : List K) : (ks.map swK).map K.key = ks.map K.key := by
  rw [List.map_map]
  exact List.map_congr_left fun k _ => swK_key k
theorem swK_two {k : K} (h : 0 ≤ k.a ∧ k.a ≤ 80) : 0 ≤ (swK k).a ∧ (swK (swK k)).a = (swK k).a + 1 ∧ (swK k).a ≤ 81 ∧ swT 1 (swK k) = [k.key] := by
  have h1 : 0 ≤ (swK k).a ∧ (swK k).a ≤ 81 := by
    have := swK_age (m := 80) (by omega) h
    rw [this]
    split <;> omega
  have h0 : ∀ q : K, q.t = false → swK q = { q with a := wrap64 (q.a + 1) } := fun q hq => by unfold swK; rw [if_neg (by rw [hq]; decide)]
  have h2 : swK (swK k) = { swK k with a := wrap64 ((swK k).a + 1) } := h0 _ (swK_t k)
  have h3 : wrap64 ((swK k).a + 1) = (swK k).a + 1 := by unfold wrap64; omega
  refine ⟨h1.1, by rw [h2]; exact h3, h1.2, ?_⟩
  unfold swT
  rw [if_neg (by rw [swK_t]; decide), h3, if_pos (by omega), swK_key]
theorem told_all {ks : List K} (h : AgeOk ks 80) : sweepT (ks.map swK) (ks.length : Nat) 1 = ks.map K.key := by
  have hc := (sweep_all (ks.map swK)).2
  rw [List.length_map] at hc
  unfold sweepT
  rw [hc, List.take_of_length_le (by rw [List.length_map]; exact Nat.le_refl _)]
  induction ks with
  | nil => rfl
  | cons k l ih =>
    rw [List.map_cons, List.flatMap_cons, (swK_two (h k (by simp))).2.2.2, List.map_cons, ih (fun k hk => h k (by simp [hk])) (by
      have := (sweep_all (l.map swK)).2
      rw [List.length_map] at this
      exact this)]
    rfl
theorem ares_at {l : List K} (hn : (l.map K.key).Nodup) {i : Nat} {k : K} (hk : l[i]? = some k) : ares l k.key = .tuple #[.int .i64 k.a, .int .i64 0] := by
  obtain ⟨h1, h2⟩ := idx_of hn (List.mem_of_getElem? hk)
  exact ares_in h1 h2
/-- Between the calls: both clocks, the keys told first. -/
def Rst (w : World) (g : Nat) (F : List Nat) (g2 : Nat) (F2 : List Nat) (ks L : List K) (h : Nat) (v : Value) (ys : List S) (W : World) : Prop :=
  Clk W g F ks ∧ RC W g2 F2 L h ∧ Told W v ys ∧ Sep (vblk v) F ∧ Sep F F2 ∧ (∀ b, b ∈ F → w.heap.size ≤ b) ∧ Below w.heap.size w W
theorem Rst.below {w W W' : World} {g g2 h : Nat} {F F2 : List Nat} {ks L : List K} {v : Value} {ys : List S} (t : Rst w g F g2 F2 ks L h v ys W) (hb : Below W.heap.size W W') : Rst w g F g2 F2 ks L h v ys W' :=
  ⟨t.1.below hb, t.2.1.below hb, t.2.2.1.below hb, t.2.2.2.1, t.2.2.2.2.1, t.2.2.2.2.2.1, t.2.2.2.2.2.2.trans (hb.mono t.2.2.2.2.2.2.size)⟩
theorem Rst.step {w W W' : World} {g g2 h : Nat} {F F' F2 : List Nat} {ks ks' L : List K} {v : Value} {ys : List S} (t : Rst w g F g2 F2 ks L h v ys W) (hc : Chg F F' W W') (hk : Clk W' g F' ks') : Rst w g F' g2 F2 ks' L h v ys W' :=
  ⟨hk, t.2.1.chg hc t.2.2.2.2.1.symm, t.2.2.1.chg hc t.2.2.2.1, (hc.sep t.2.2.2.1.symm t.2.2.1.lt).symm, hc.sep t.2.2.2.2.1 t.2.1.lt, hc.ge t.2.2.2.2.2.1 t.2.2.2.2.2.2.size, t.2.2.2.2.2.2.trans (hc.below t.2.2.2.2.2.1 t.2.2.2.2.2.2.size)⟩
def agesAt (ks : List K) (i : Nat) : List Value := ((ks.take i).map fun k => Value.int .i64 k.a) ++ List.replicate (ks.length - i) (.int .i64 0)
theorem agesAt_step {ks : List K} {i : Nat} {k : K} (hk : ks[i]? = some k) : (agesAt ks i).set i (.int .i64 k.a) = agesAt ks (i + 1) := by
  have hi := (List.getElem?_eq_some_iff.1 hk).1
  have hl : ((ks.take i).map fun k => Value.int .i64 k.a).length = i := by rw [List.length_map, List.length_take]; omega
  unfold agesAt
  rw [List.set_append_right _ _ (by omega), hl, Nat.sub_self, show ks.length - i = (ks.length - (i + 1)) + 1 by omega, List.replicate_succ, List.set_cons_zero, take_succ' ks i k hk]
  simp
theorem agesAt_get {ks : List K} {i : Nat} {k : K} (hk : ks[i]? = some k) : (agesAt ks ks.length)[i]? = some (.int .i64 k.a) := by
  unfold agesAt
  rw [List.take_length, Nat.sub_self, List.replicate_zero, List.append_nil, List.getElem?_map, hk]
  rfl
set_option maxRecDepth 100000 in
set_option maxHeartbeats 8000000 in
theorem rounds_law (ao : Option Addr) (len cap : Nat) (z : Nat → Nat → Int) (w : World) (hlc : len ≤ cap) (hcm : cap ≤ maxLen) (hA : Acts w ao len z) :
    Calls Try.prog 7 #[.slice ao len cap] w fun e w' => e = .returned (.bool true) ∧ Below w.heap.size w w' := by
  go_enter Try.func7, Try.ntmps7
  go_wp2_with fail
  refine (made_any ao len cap z w hlc hcm hA).mono ?_
  rintro e w1 ⟨g, g2, F1, F2, ks, L, h, rfl, hm1, hb1⟩
  have HM1 := Lib.hid (And.intro hm1 hb1)
  clear hm1 hb1 hA
  go_wp2_with fail
  refine (awake_any w1).mono ?_
  rintro e w2 ⟨rfl, hb2⟩
  have HM2 := Lib.hid (And.intro (HM1.out.1.below hb2) (HM1.out.2.trans (hb2.mono HM1.out.2.size)))
  clear hb2 HM1
  go_wp2_with fail
  refine (all_any g F1 ks w2 HM2.out.1.1.1 (by have := HM2.out.1.2.1.1; omega)).mono ?_
  rintro e w3 ⟨v1, rfl, hv1, hc3⟩
  have hb3 := hc3.below (C := w2.heap.size) (fun b hb => by simp at hb) (Nat.le_refl _)
  obtain ⟨ys, hys⟩ : ∃ ys, ks.map K.key = ys := ⟨_, rfl⟩
  obtain ⟨M, hM⟩ : ∃ M, ys.length = M := ⟨_, rfl⟩
  have HA := Lib.hid HM2.out.1.2.1.2
  have HN := Lib.hid HM2.out.1.1.2.2.2.2.1
  have hKM : ks.length = M := by rw [← hM, ← hys, List.length_map]
  have hLM : L.length = M := by rw [← hKM, HM2.out.1.1.2.2.2.length]
  have hM80 : M ≤ 80 := by rw [← hKM]; exact HM2.out.1.2.1.1
  rw [hys] at hv1
  have HR3 : RowKit.Hid (Rst w g F1 g2 F2 ks L h v1 ys w3) := Lib.hid ⟨HM2.out.1.1.1.below hb3, HM2.out.1.1.2.1.below hb3, hv1, Sep.fresh (n := w2.heap.size) (hc3.ge (fun b hb => by simp at hb) (Nat.le_refl _)) HM2.out.1.1.1.lt, HM2.out.1.1.2.2.1, fun b hb => HM2.out.1.2.2 b (by simp [hb]), HM2.out.2.trans (hb3.mono HM2.out.2.size)⟩
  have hsl := Sq.slice hv1
  rw [hM] at hsl
  obtain ⟨aoW, capW, rfl, hnW, hmW⟩ := hsl
  have HYS := Lib.hid hys
  have HMM := Lib.hid hM
  have HKM := Lib.hid hKM
  have HLM := Lib.hid hLM
  have HK1 : RowKit.Hid ((ks.map swK).map K.key = ys) := Lib.hid (by rw [swK_keys]; exact hys)
  have HL1 : RowKit.Hid ((ks.map swK).length = M) := Lib.hid (by rw [List.length_map]; exact hKM)
  have HN1 : RowKit.Hid (((ks.map swK).map K.key).Nodup) := Lib.hid (by rw [swK_keys]; exact HN.out)
  have HN2 : RowKit.Hid ((((ks.map swK).map swK).map K.key).Nodup) := Lib.hid (by rw [swK_keys]; exact HN1.out)
  have HT1 : RowKit.Hid (sweepT (ks.map swK) (M : Nat) 1 = ys) := Lib.hid (by rw [← hKM, told_all HA.out]; exact hys)
  have HS1 : RowKit.Hid (sweepK ks (M : Nat) = ks.map swK) := Lib.hid (by rw [← hKM]; exact (sweep_all ks).1)
  have HS2 : RowKit.Hid (sweepK (ks.map swK) (M : Nat) = (ks.map swK).map swK) := Lib.hid (by rw [← HL1.out]; exact (sweep_all _).1)
  have HKK : RowKit.Hid (∀ (i : Nat) (y : S), ys[i]? = some y → ∃ k, (ks.map swK)[i]? = some (swK k) ∧ ((ks.map swK).map swK)[i]? = some (swK (swK k)) ∧ k.key = y ∧ ares (ks.map swK) y = .tuple #[.int .i64 (swK k).a, .int .i64 0] ∧ ares ((ks.map swK).map swK) y = .tuple #[.int .i64 ((swK k).a + 1), .int .i64 0] ∧ 0 ≤ (swK k).a ∧ (swK k).a ≤ 81) := Lib.hid (by
    intro i y hy
    rw [← hys, List.getElem?_map] at hy
    cases hk : ks[i]? with
    | none => rw [hk] at hy; cases hy
    | some k =>
      rw [hk] at hy
      simp only [Option.map_some, Option.some.injEq] at hy
      have e1 : (ks.map swK)[i]? = some (swK k) := by rw [List.getElem?_map, hk]; rfl
      have e2 : ((ks.map swK).map swK)[i]? = some (swK (swK k)) := by rw [List.getElem?_map, e1]; rfl
      have h2 := swK_two (HA.out k (List.mem_of_getElem? hk))
      have a1 := ares_at HN1.out e1
      have a2 := ares_at HN2.out e2
      rw [swK_key, swK_key, h2.2.1] at a2
      rw [swK_key] at a1
      rw [hy] at a1 a2
      exact ⟨k, e1, e2, hy, a1, a2, h2.1, h2.2.2.1⟩)
  clear hb3 hc3 hv1 HM2 hys hM hKM hLM
  obtain ⟨k1, hk1⟩ : ∃ k1, ks.map swK = k1 := ⟨_, rfl⟩
  rw [hk1] at HK1 HL1 HN1 HN2 HT1 HS1 HS2 HKK
  clear hk1
  obtain ⟨k2, hk2⟩ : ∃ k2, k1.map swK = k2 := ⟨_, rfl⟩
  rw [hk2] at HN2 HS2 HKK
  have HL2 : RowKit.Hid (k2.length = M) := Lib.hid (by rw [← hk2, List.length_map]; exact HL1.out)
  have HK2 : RowKit.Hid (k2.map K.key = ys) := Lib.hid (by rw [← hk2, swK_keys]; exact HK1.out)
  clear hk2
  go_wp2_with fail
  refine (sweep_any g F1 ks (M : Nat) 1 w3 HR3.out.1 (by have := HKM.out; omega)).mono ?_
  rintro e w4 ⟨v2, F3, rfl, _, hk4, hc4, _⟩
  rw [HS1.out] at hk4
  have HR4 := Lib.hid (HR3.out.step (hc4.sub (fun b hb => List.mem_append_left _ hb)) hk4)
  clear hk4 hc4 HR3
  go_wp2_with fail
  refine (all_any g F3 k1 w4 HR4.out.1 (by have := HL1.out; omega)).mono ?_
  rintro e w5 ⟨v3, rfl, hv5, hc5⟩
  have hb5 := hc5.below (C := w4.heap.size) (fun b hb => by simp at hb) (Nat.le_refl _)
  have HR5 := Lib.hid (HR4.out.below hb5)
  rw [HK1.out] at hv5
  have HV5 := Lib.hid hv5
  clear hv5 hc5 hb5 HR4
  go_wp2_with fail
  refine (same_any (.slice aoW M capW) v3 ys ys w5 HR5.out.2.2.1 HV5.out (by have := HMM.out; omega)).mono ?_
  rintro e w6 ⟨rfl, hb6⟩
  have HR6 := Lib.hid (HR5.out.below hb6)
  clear hb6 HR5 HV5
  have hmk := run_make_row' (P := Try.prog) 52 3 (.int .i64 0) 8 (by kernel_rfl) (by kernel_rfl) rfl .i64 .i64 M (by omega) (by omega) w6
  have hb7 := (Below.refl w6.heap.size w6).alloc (Nat.le_refl _) (Obj.cells (madeCells #[.int .i64 0] M) 3)
  have hsq := Sq.made w6 (.int .i64 0) M 3 (by unfold maxLen; omega)
  have HR7 := Lib.hid (HR6.out.below hb7)
  have HSQ := Lib.hid hsq
  have HGE := Lib.hid HR6.out.1.lt
  have HGW := Lib.hid HR6.out.2.2.1.lt
  have HG2 := Lib.hid HR6.out.2.1.lt
  have HB7 := Lib.hid HR6.out.2.2.2.2.2.2.size
  clear hb7 hsq HR6
  generalize w6.alloc (Obj.cells (madeCells #[.int .i64 0] M) 3) = w7 at *
  generalize w6.heap.size = B7 at *
  go_upto_region 10 with fail
  clear hmk
  go_wp2_with fail
  go_loopw [9] (fun s wr => ∃ i : Nat, i ≤ M ∧ s = .int .i64 (i : Nat) ∧ RowKit.Hid (Rst w g F3 g2 F2 k1 L h (.slice aoW M capW) ys wr ∧ Sq wr 3 1 (.slice (some ⟨B7, 0, none⟩) M M) M (agesAt k1 i))) (fun s _ => M - (intOf s).toNat)
  case atStart => exact ⟨0, Nat.zero_le _, rfl, Lib.hid ⟨HR7.out, by have : agesAt k1 0 = List.replicate M (.int .i64 0) := (by unfold agesAt; rw [HL1.out]; simp); rw [this]; exact HSQ.out⟩⟩
  case round =>
    obtain ⟨i, hi, rfl, HR⟩ := hrel
    by_cases hlt : i < M
    · obtain ⟨bv, cv, hvv, hbv, hcell⟩ := HR.out.1.2.2.1.read (by intro e; have := HMM.out; rw [e] at this; simp at this; omega)
      rw [HMM.out] at hvv
      cases hvv
      have hy := List.getElem?_eq_getElem (show i < ys.length by rw [HMM.out]; exact hlt)
      generalize ys[i]'(by rw [HMM.out]; exact hlt) = y at hy
      obtain ⟨v0, v1⟩ := hcell i y hy
      obtain ⟨k, q1, _, q2, q3, _, _, _⟩ := HKK.out i y hy
      have hki : ((i : Nat) : Int) < ((M : Nat) : Int) := by omega
      have Q1 := Lib.hid q1
      have Q3 := Lib.hid q3
      clear hcell hy q1 q2 q3
      go_wp2_with fail
      refine (age_any g F3 k1 y wr HR.out.1.1 (by have := HL1.out; omega)).mono ?_
      rintro e w8 ⟨rfl, hb8⟩
      rw [Q3.out]
      have HRx := Lib.hid (And.intro (HR.out.1.below hb8) (HR.out.2.below hb8))
      clear hb8 HR v0 v1
      have hst := HRx.out.2.stored i (.int .i64 (swK k).a)
      rw [agesAt_step Q1.out] at hst
      have hRs : Rst w g F3 g2 F2 k1 L h (.slice (some ⟨bv, 0, none⟩) M capW) ys (w8.setCell ⟨B7, i, none⟩ (.int .i64 (swK k).a)) := by
        obtain ⟨r1, r2, r3, r4, r5, r6, r7⟩ := HRx.out.1
        have hne : ∀ b, b < B7 → (w8.setCell ⟨B7, i, none⟩ (.int .i64 (swK k).a)).heap[b]? = w8.heap[b]? := fun b hb => Below.heap_setCell _ _ _ _ (show b ≠ B7 by omega)
        have hch : Chg [B7] [B7] w8 (w8.setCell ⟨B7, i, none⟩ (.int .i64 (swK k).a)) := (Chg.refl _ _).setCell _ _ _ (by simp)
        exact ⟨r1.chg hch (fun b hb hm => by simp at hm; have := HGE.out b hb; omega), r2.chg hch (fun b hb hm => by simp at hm; have := HG2.out b hb; omega), r3.chg hch (fun b hb hm => by simp at hm; have := HGW.out b hb; omega), r4, r5, r6, r7.setCell HB7.out _⟩
      rcases HRx.out.2.cases with ⟨hv, _⟩ | ⟨b9, cap9, hv, _, _, _, hc9, hf9⟩
      · cases hv
      cases hv
      obtain ⟨uA, cA⟩ : ∃ u, w8.cell? ⟨B7, i, none⟩ = some u := ⟨_, hc9 i _ (List.getElem?_eq_getElem (by rw [HRx.out.2.length]; omega))⟩
      have fA := hf9 i
      have HST := Lib.hid (And.intro hRs hst)
      clear hRs hst hc9 hf9 HRx
      go_wp2_with fail
      exact ⟨⟨i + 1, hlt, by simp, HST⟩, by simp [intOf]; omega⟩
    · have hiM : i = M := by omega
      subst hiM
      clear hlt
      go_wp2_with fail
      refine (sweep_any g F3 k1 (i : Nat) 1 wr HR.out.1.1 (by have := HL1.out; omega)).mono ?_
      rintro e w9 ⟨v4, F4, rfl, hv9, hk9, hc9, hs9⟩
      rw [HT1.out] at hv9
      rw [HS2.out] at hk9
      have hc9' := hc9.sub (G := F4) (fun b hb => List.mem_append_left _ hb)
      have HR9 : RowKit.Hid (Rst w g F4 g2 F2 k2 L h (.slice aoW i capW) ys w9 ∧ Sq w9 3 1 (.slice (some ⟨B7, 0, none⟩) i i) i (agesAt k1 i) ∧ Told w9 v4 ys) := Lib.hid ⟨HR.out.1.step hc9' hk9, HR.out.2.chg hc9' (fun b hb hm => by simp [vblk_some] at hb; subst hb; have := HGE.out _ hm; omega), hv9⟩
      have hsl := Sq.slice hv9
      clear hv9 hk9 hc9 hs9 hc9' HR
      rw [HMM.out] at hsl
      obtain ⟨ao4, cap4, rfl, _, _⟩ := hsl
      go_wp2_with fail
      go_loopw [13] (fun s wr => ∃ j : Nat, j ≤ i ∧ s = .int .i64 (j : Nat) ∧ Below w9.heap.size w9 wr) (fun s _ => i - (intOf s).toNat)
      case atStart => exact ⟨0, Nat.zero_le _, rfl, Below.refl _ _⟩
      case round =>
        obtain ⟨j, hj, rfl, hbr⟩ := hrel
        have HRj := Lib.hid (And.intro (HR9.out.1.below hbr) (And.intro (HR9.out.2.1.below hbr) (HR9.out.2.2.below hbr)))
        have HBR := Lib.hid hbr
        clear hbr
        by_cases hlt : j < i
        · obtain ⟨bv, cv, hvv, hbv, hcell⟩ := HRj.out.1.2.2.1.read (by intro e; have := HMM.out; rw [e] at this; simp at this; omega)
          rw [HMM.out] at hvv
          cases hvv
          have hy := List.getElem?_eq_getElem (show j < ys.length by rw [HMM.out]; exact hlt)
          generalize ys[j]'(by rw [HMM.out]; exact hlt) = y at hy
          obtain ⟨v0, v1⟩ := hcell j y hy
          obtain ⟨k, q1, _, _, _, q3, q4, q5⟩ := HKK.out j y hy
          have hki : ((j : Nat) : Int) < ((i : Nat) : Int) := by omega
          have Q1 := Lib.hid q1
          have Q3 := Lib.hid q3
          clear hcell hy q1 q3
          go_wp2_with fail
          refine (age_any g F4 k2 y wr HRj.out.1.1 (by have := HL2.out; omega)).mono ?_
          rintro e w10 ⟨rfl, hb10⟩
          rw [Q3.out]
          have cA : w10.cell? ⟨B7, j, none⟩ = some (.int .i64 (swK k).a) := by
            rcases (HRj.out.2.1.below hb10).cases with ⟨hv, _⟩ | ⟨b9, cap9, hv, _, _, _, hc9, _⟩
            · cases hv
            · cases hv
              have := agesAt_get Q1.out
              rw [HL1.out] at this
              exact hc9 _ _ this
          have HBX := Lib.hid (below2 HBR.out hb10)
          clear hb10 HRj v0 v1
          have hww : IntKind.i64.wrap ((swK k).a + 1) = (swK k).a + 1 := by rw [IntKind.wrap_i64]; omega
          generalize (swK k).a = q at *
          go_wp2_with fail
          exact ⟨⟨j + 1, hlt, by simp, HBX.out⟩, by simp [intOf]; omega⟩
        · have hji : j = i := by omega
          clear hlt
          go_wp2_with fail
          refine (same_any (.slice ao4 i cap4) (.slice aoW i capW) ys ys wr HRj.out.2.2 HRj.out.1.2.2.1 (by have := HMM.out; omega)).mono ?_
          rintro e w11 ⟨rfl, hb11⟩
          have HR11 := Lib.hid (HRj.out.1.below hb11)
          clear hb11 HRj
          go_wp2_with fail
          refine (all_any g F4 k2 w11 HR11.out.1 (by have := HL2.out; omega)).mono ?_
          rintro e w12 ⟨v5, rfl, hv12, hc12⟩
          have hb12 := hc12.below (C := w11.heap.size) (fun b hb => by simp at hb) (Nat.le_refl _)
          have HR12 := Lib.hid (HR11.out.below hb12)
          rw [HK2.out] at hv12
          have HV12 := Lib.hid hv12
          clear hv12 hc12 hb12 HR11
          go_wp2_with fail
          refine (same_any (.slice aoW i capW) v5 ys ys w12 HR12.out.2.2.1 HV12.out (by have := HMM.out; omega)).mono ?_
          rintro e w13 ⟨rfl, hb13⟩
          have HR13 := Lib.hid (HR12.out.below hb13)
          clear hb13 HR12 HV12
          obtain ⟨aoL, capL, c0⟩ := HR13.out.2.1.cell0
          rw [HLM.out] at c0
          go_wp2_with fail
          exact bodyPost_ret (results_tmp rfl _ _ _) rfl ⟨by simp, HR13.out.2.2.2.2.2.2⟩

end Go.Proofs.Ytehbonhdhblpgaa
