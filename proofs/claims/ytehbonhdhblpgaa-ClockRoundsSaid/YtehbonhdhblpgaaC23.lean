/- Parts of the proofs of layer 25 (clock): contracts of its functions, and the laws' walks. -/
import Derived.Test.YtehbonhdhblpgaaProg
import Derived.WalkKit
import Derived.WalkSpells
import Derived.WalkLawsBesides
import Derived.BigQuiet
import Derived.Deep.QuietTactic
import Derived.Lib.Hide
import Derived.Deep.RegionHeld3
import Derived.Deep.DeepCutAuto
import Derived.KernelRfl
import Derived.Deep.OwnRows
import Derived.Laws.CopyOwn
import Derived.Laws.CopyRow
import Derived.StillTailTactics
import Derived.Deep.RegionLaw
import Derived.Test.YtehbonhdhblpgaaC22
namespace Go.Proofs.Ytehbonhdhblpgaa
open Go.RowKit
set_option linter.unusedVariables false
set_option linter.unusedSimpArgs false

theorem Made.below {B m : Nat} {w w' : World} {g g2 h : Nat} {F1 F2 : List Nat} {ks L : List K} (t : Made B w g F1 g2 F2 ks L h m) (hb : Below w.heap.size w w') : Made B w' g F1 g2 F2 ks L h m := ⟨t.1.below hb, t.2⟩
theorem told_facts {ks L : List K} {h : Nat} (r : Rel ks L h) {n age : Int} {y : S} (hy : y ∈ sweepT ks n age) :
    ∃ k, idx L y < L.length ∧ L[idx L y]? = some k ∧ k.t = false ∧ age ≤ wrap64 (k.a + 1) ∧ ares (sweepK ks n) y = .tuple #[.int .i64 (wrap64 (k.a + 1)), .int .i64 0] := by
  unfold sweepT at hy
  obtain ⟨k, h1, h2⟩ := List.mem_flatMap.1 hy
  obtain ⟨rfl, h3, h4⟩ := swT_mem h2
  have hk : k ∈ ks := List.mem_of_mem_take h1
  have hL : k ∈ L := by rw [r.1] at hk; exact (rot_mem L h k).1 hk
  obtain ⟨i1, i2⟩ := idx_of r.nodup hL
  have hs : swK k = { k with a := wrap64 (k.a + 1) } := by unfold swK; rw [if_neg (by rw [h3]; decide)]
  have hm : swK k ∈ sweepK ks n := by
    unfold sweepK
    exact List.mem_append_right _ (List.mem_map.2 ⟨k, h1, rfl⟩)
  obtain ⟨i3, i4⟩ := idx_of (nodup_sweep r.2.1 n) hm
  rw [swK_key] at i3 i4
  exact ⟨k, i1, i2, h3, h4, by rw [ares_in i3 i4, hs]⟩
theorem told_cnt (ks : List K) (n age : Int) : (sweepT ks n age).length ≤ cnt ks n := by
  unfold sweepT
  exact Nat.le_trans (told_length _ _) (by rw [List.length_take]; exact Nat.min_le_left _ _)
theorem told_few (ks : List K) (n age : Int) (h : n < (sweepT ks n age).length) : (sweepT ks n age).length = 0 := by
  have := told_cnt ks n age
  unfold cnt at this
  split at this
  · omega
  · omega
set_option maxRecDepth 100000 in
set_option maxHeartbeats 8000000 in
theorem old_law (ao : Option Addr) (len cap : Nat) (z : Nat → Nat → Int) (n age : Int) (w : World) (hlc : len ≤ cap) (hcm : cap ≤ maxLen) (hA : Acts w ao len z) :
    Calls Try.prog 4 #[.slice ao len cap, .int .i64 n, .int .i64 age] w fun e w' => e = .returned (.bool true) ∧ Below w.heap.size w w' := by
  go_enter Try.func4, Try.ntmps4
  go_wp2_with fail
  refine (made_any ao len cap z w hlc hcm hA).mono ?_
  rintro e w1 ⟨g, g2, F1, F2, ks, L, h, rfl, hm1, hb1⟩
  have HM1 := Lib.hid (And.intro hm1 hb1)
  clear hm1 hb1 hA
  go_wp2_with fail
  refine (awake_any w1).mono ?_
  rintro e w2 ⟨rfl, hb2⟩
  have HM2 := Lib.hid (And.intro (HM1.out.1.below hb2) (HM1.out.2.trans (hb2.mono HM1.out.2.size)))
  clear hb2 HM1
  go_wp2_with fail
  refine (sweep_any g F1 ks n age w2 HM2.out.1.1.1 (by have := HM2.out.1.2.1.1; omega)).mono ?_
  rintro e w3 ⟨v, F1', rfl, hv, hk, hc, hs⟩
  have HW : RowKit.Hid (Told w3 v (sweepT ks n age) ∧ Clk w3 g F1' (sweepK ks n) ∧ RC w3 g2 F2 L h ∧ Rel ks L h ∧ ks.length ≤ 80 ∧ Below w.heap.size w w3) := Lib.hid ⟨hv, hk, HM2.out.1.1.2.1.chg (hc.sub (fun b hb => List.mem_append_left _ hb)) HM2.out.1.1.2.2.1.symm, HM2.out.1.1.2.2.2, HM2.out.1.2.1.1, HM2.out.2.trans (hc.below (fun b hb => HM2.out.1.2.2 b (by simp [hb])) HM2.out.2.size)⟩
  have HF := Lib.hid (fun y (hy : y ∈ sweepT ks n age) => told_facts HW.out.2.2.2.1 hy)
  have hfew := told_few ks n age
  have hTL := sweepT_length ks n age
  have hLN := HW.out.2.2.2.1.length
  have hks := HW.out.2.2.2.2.1
  clear HM2 hv hk hc hs
  obtain ⟨T, hT⟩ : ∃ T, sweepT ks n age = T := ⟨_, rfl⟩
  rw [hT] at HW HF hfew hTL
  clear hT
  obtain ⟨ao3, cap3, rfl, _, _⟩ := Sq.slice HW.out.1
  obtain ⟨aoL, capL, r0⟩ := HW.out.2.2.1.cell0
  rw [hLN] at hTL hks
  have t3 : decide (L.length < T.length) = false := decide_eq_false (by omega)
  have HLL := Lib.hid (show L.length ≤ 80 from hks)
  have htests : (decide (n < ((T.length : Nat) : Int)) = false) ∨ (decide (n < ((T.length : Nat) : Int)) = true ∧ decide (0 < T.length) = false) := by
    by_cases hh : n < ((T.length : Nat) : Int)
    · exact .inr ⟨decide_eq_true hh, decide_eq_false (by have := hfew hh; omega)⟩
    · exact .inl (decide_eq_false hh)
  have hT1 : T.length ≤ 80 := by omega
  clear hfew hTL hLN hks
  rcases htests with t1 | ⟨t1, t2⟩
  all_goals
    go_upto_region 7 with fail
    clear t1 t3
    try clear t2
    clear r0
    go_wp2_with fail
    go_loopw [11] (fun s wr => ∃ i : Nat, i ≤ T.length ∧ s = .int .i64 (i : Nat) ∧ Below w3.heap.size w3 wr) (fun s _ => T.length - (intOf s).toNat)
    case atStart => exact ⟨0, Nat.zero_le _, rfl, Below.refl _ _⟩
    case round =>
      obtain ⟨i, hi, rfl, hbr⟩ := hrel
      have HBR := Lib.hid hbr
      clear hbr
      by_cases hlt : i < T.length
      · obtain ⟨bv, cv, hvv, hbv, hcell⟩ := (HW.out.1.below HBR.out).read (by intro e; rw [e] at hlt; simp at hlt)
        cases hvv
        have hy := List.getElem?_eq_getElem hlt
        generalize T[i] = y at hy
        obtain ⟨v0, v1⟩ := hcell i y hy
        have hki : ((i : Nat) : Int) < ((T.length : Nat) : Int) := by omega
        obtain ⟨k, k1, k2, k3, k4, k5⟩ := HF.out y (List.mem_of_getElem? hy)
        have HK := Lib.hid (And.intro k1 k2)
        have HK3 := Lib.hid (And.intro k3 k4)
        have HK5 := Lib.hid k5
        clear hcell hy k1 k2 k3 k4 k5
        go_wp2_with fail
        refine (at_any g2 F2 L h y wr (HW.out.2.2.1.below HBR.out) (by have := HLL.out; omega)).mono ?_
        rintro e w4 ⟨rfl, hb4⟩
        rw [show ares' L y = (idx L y : Nat) from if_pos HK.out.1]
        replace v0 := cell_keep hb4 v0
        replace v1 := cell_keep hb4 v1
        have HB4 := Lib.hid (below2 HBR.out hb4)
        clear hb4
        go_wp2_with fail
        refine (age_any g F1' (sweepK ks n) y w4 (HW.out.2.1.below HB4.out) (by rw [sweepK_length]; have := HW.out.2.2.2.2.1; omega)).mono ?_
        rintro e w5 ⟨rfl, hb5⟩
        rw [HK5.out]
        have HB5 := Lib.hid (below2 HB4.out hb5)
        clear hb5 v0 v1
        obtain ⟨b, capL, c0, e2, e3⟩ := (HW.out.2.2.1.below HB5.out).key HK.out.2
        rw [HK3.out.1] at e2
        have hix := HK.out.1
        generalize idx L y = j at hix e2 e3 HK ⊢
        obtain ⟨q, hq'⟩ : ∃ q, IntKind.i64.wrap (k.a + 1) = q := ⟨_, rfl⟩
        have hq : wrap64 (k.a + 1) = q := by rw [← hq', IntKind.wrap_i64]; unfold wrap64; rfl
        rw [hq] at HK3 ⊢
        have j1 : decide ((j : Int) < 0) = false := decide_eq_false (by omega)
        have j3 : ((j : Nat) : Int) < ((L.length : Nat) : Int) := by omega
        have j4 : decide (q < age) = false := decide_eq_false (by have := HK3.out.2; omega)
        have HQ := Lib.hid hq
        clear hq
        go_wp2_with fail
        exact ⟨⟨i + 1, hlt, by simp, HB5.out⟩, by simp [intOf]; omega⟩
      · go_wp2_with fail
        exact bodyPost_ret (results_tmp rfl _ _ _) rfl ⟨rfl, HW.out.2.2.2.2.2.trans (HBR.out.mono HW.out.2.2.2.2.2.size)⟩

end Go.Proofs.Ytehbonhdhblpgaa
