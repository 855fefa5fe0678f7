/- Parts of the proofs of layer 20 (regions): contracts of its functions, and the laws' walks. -/
import Derived.Test.YtnakmjajpfilgaaProg
import Derived.WalkKit
import Derived.WalkSpells
import Derived.WalkLawsBesides
import Derived.BigQuiet
import Derived.Deep.QuietTactic
import Derived.Lib.Hide
import Derived.Deep.RegionHeld3
import Derived.Deep.DeepCutAuto
import Derived.KernelRfl
import Derived.Deep.OwnRows
import Derived.Laws.CopyOwn
import Derived.Laws.CopyRow
import Derived.StillTailTactics
import Derived.Deep.RegionLaw
import Derived.Test.YtnakmjajpfilgaaD6
namespace Go.Proofs.Ytnakmjajpfilgaa
open Go.RowKit
set_option linter.unusedVariables false
set_option linter.unusedSimpArgs false

def busy (q : List R2) (s : R2) : Bool := q.any fun r => decide (0 < com r s)
def dele (q : List R2) (a b : Int) : Int := if wrg a b = 0 then (if busy q ⟨a, b⟩ = true then 12 else 0) else 3
def deln (l q : List R2) (a b : Int) : Int := if dele q a b = 0 then cntL l ⟨a, b⟩ else 0
def dell (l q : List R2) (a b : Int) : List R2 := if dele q a b = 0 then delL l ⟨a, b⟩ else l
theorem busy_iff (q : List R2) (s : R2) : busy q s = true ↔ ∃ r ∈ q, 0 < com r s := by
  unfold busy
  simp only [List.any_eq_true, decide_eq_true_eq]
theorem cutR_length (s r : R2) : (cutR s r).length ≤ 2 := by
  unfold cutR
  split
  · exact Nat.le_succ _
  · rw [List.length_append]
    split <;> split <;> simp
theorem delL_length (l : List R2) (s : R2) : (delL l s).length ≤ 2 * l.length := by
  induction l with
  | nil => exact Nat.le_refl _
  | cons r l ih =>
    unfold delL at ih ⊢
    rw [List.flatMap_cons, List.length_append, List.length_cons]
    have := cutR_length s r
    omega
theorem delL_snoc (l : List R2) (s : R2) (i : Nat) (k : R2) (h : l[i]? = some k) : delL (l.take (i + 1)) s = delL (l.take i) s ++ cutR s k := by
  unfold delL
  rw [take_succ' l i k h, List.flatMap_append]
  simp
theorem cut_cases (s k : R2) : (com k s = 0 ∧ cutR s k = [k]) ∨ (com k s ≠ 0 ∧ k.a < s.a ∧ s.b < k.b ∧ cutR s k = [⟨k.a, s.a⟩, ⟨s.b, k.b⟩]) ∨ (com k s ≠ 0 ∧ k.a < s.a ∧ ¬ s.b < k.b ∧ cutR s k = [⟨k.a, s.a⟩]) ∨ (com k s ≠ 0 ∧ ¬ k.a < s.a ∧ s.b < k.b ∧ cutR s k = [⟨s.b, k.b⟩]) ∨ (com k s ≠ 0 ∧ ¬ k.a < s.a ∧ ¬ s.b < k.b ∧ cutR s k = []) := by
  unfold cutR
  by_cases h0 : com k s = 0
  · exact .inl ⟨h0, by rw [if_pos h0]⟩
  · right
    by_cases h1 : k.a < s.a <;> by_cases h2 : s.b < k.b
    · exact .inl ⟨h0, h1, h2, by rw [if_neg h0, if_pos h1, if_pos h2]; rfl⟩
    · exact .inr (.inl ⟨h0, h1, h2, by rw [if_neg h0, if_pos h1, if_neg h2]; rfl⟩)
    · exact .inr (.inr (.inl ⟨h0, h1, h2, by rw [if_neg h0, if_neg h1, if_pos h2]; rfl⟩))
    · exact .inr (.inr (.inr ⟨h0, h1, h2, by rw [if_neg h0, if_neg h1, if_neg h2]; rfl⟩))
/-- A row that grows by one. -/
theorem Told.one_more {w : World} {v : Value} {l : List R2} {k : R2} (h : Sq w 30 2 v (l.length + 1) (rc l ++ rc [k])) : Told w v (l ++ [k]) := by
  unfold Told
  rw [List.length_append, rc_append]
  exact h
set_option maxRecDepth 100000 in
set_option maxHeartbeats 8000000 in
theorem del_any (g : Nat) (F : List Nat) (l q : List R2) (a b : Int) (w : World) (h : Mp w g F l q) (hm : l.length ≤ 90000) (hq : q.length ≤ 100000) (hr : ∀ r ∈ l, 0 ≤ r.a ∧ r.a ≤ 65536 ∧ 0 ≤ r.b ∧ r.b ≤ 65536) (hrq : ∀ r ∈ q, 0 ≤ r.a ∧ r.a ≤ 65536 ∧ 0 ≤ r.b ∧ r.b ≤ 65536) :
    Calls Try.prog 15 #[.pointer (some ⟨g, 0, none⟩), .int .i64 a, .int .i64 b] w fun e w' => e = .returned (.tuple #[.int .i64 (deln l q a b), .int .i64 (dele q a b)]) ∧ ∃ F', Chg F F' w w' ∧ Mp w' g F' (dell l q a b) q := by
  have HM := Lib.hid h
  have HR := Lib.hid hr
  have HRQ := Lib.hid hrq
  clear h hr hrq
  go_enter Try.func15, Try.ntmps15
  go_wp2_with fail
  refine (wrong_any g a b w).mono ?_
  rintro e w1 ⟨rfl, rfl⟩
  by_cases hw : wrg a b = 0
  · obtain ⟨r1, r2, r3⟩ := wrg_ok hw
    rw [hw]
    have HW := Lib.hid hw
    clear hw
    go_upto_region 5 with fail
    have hA := (Below.refl w.heap.size w).alloc (Nat.le_refl _) (.cells #[.int .i64 a, .int .i64 b] 30)
    have hX := Box.new w ⟨a, b⟩
    have HM2 := Lib.hid (HM.out.below hA)
    have HB2 := Lib.hid hA
    clear hA
    generalize w.alloc (.cells #[.int .i64 a, .int .i64 b] 30) = w2 at *
    obtain ⟨al, cl, aq, cq, c0, c1, hT, hQ⟩ := HM2.out.cells
    obtain ⟨s, hs⟩ : ∃ s : R2, s = ⟨a, b⟩ := ⟨_, rfl⟩
    rw [← hs] at hX
    have HSS := Lib.hid hs
    have HSR : RowKit.Hid (0 ≤ s.a ∧ s.a ≤ 65536 ∧ 0 ≤ s.b ∧ s.b ≤ 65536) := Lib.hid (by rw [hs]; exact ⟨r1, by show a ≤ 65536; omega, by show 0 ≤ b; omega, r3⟩)
    clear hs
    go_wp2_with fail
    go_loopw [31] (fun s' wr => ∃ i : Nat, i ≤ q.length ∧ s' = .int .i64 (i : Nat) ∧ RowKit.Hid (∀ r ∈ q.take i, com r s ≤ 0) ∧ Below w2.heap.size w2 wr) (fun s' _ => q.length - (intOf s').toNat)
    case atStart => exact ⟨0, Nat.zero_le _, rfl, Lib.hid (fun r h => by simp at h), Below.refl _ _⟩
    case round =>
      obtain ⟨i, hi, rfl, HNO, hbr⟩ := hrel
      by_cases hil : i < q.length
      · obtain ⟨bq, cq', hv, hbl, hcell⟩ := hQ.read (ne_nil_of_lt hil)
        cases hv
        have hk := List.getElem?_eq_getElem hil
        generalize q[i] = k at hk
        obtain ⟨e0, e1⟩ := hcell i k hk
        replace e0 := cell_keep hbr e0
        replace e1 := cell_keep hbr e1
        have hkr := HRQ.out k (List.mem_of_getElem? hk)
        have hiI : ((i : Nat) : Int) < ((q.length : Nat) : Int) := by omega
        have hA : Below wr.heap.size wr (wr.alloc (.cells #[.int .i64 k.a, .int .i64 k.b] 30)) := (Below.refl _ wr).alloc (Nat.le_refl _) _
        obtain ⟨s0, s1⟩ := ((hX.below hbr).below hA).cells
        have HBA := Lib.hid (below2 hbr hA)
        have HK := Lib.hid hk
        clear hcell hk hA hbr
        go_wp2_with fail
        refine (common_any k s _ hkr HSR.out).mono ?_
        rintro e w5 ⟨rfl, hb5⟩
        have HB5 := Lib.hid (below2 HBA.out hb5)
        clear hb5 s0 s1
        have hcn := com_nonneg k s
        by_cases hc : 0 < com k s
        · have hbz : busy q s = true := (busy_iff q s).2 ⟨k, List.mem_of_getElem? HK.out, hc⟩
          have HA : RowKit.Hid (dele q a b = 12 ∧ deln l q a b = 0 ∧ dell l q a b = l) := Lib.hid (by
            rw [HSS.out] at hbz
            have h1 : dele q a b = 12 := by unfold dele; rw [if_pos HW.out, if_pos hbz]
            exact ⟨h1, by unfold deln; rw [if_neg (by omega)], by unfold dell; rw [if_neg (by omega)]⟩)
          clear hbz
          generalize com k s = c at *
          go_wp2_with fail
          refine bodyPost_ret (results_tmp2 rfl _ _ _) rfl ⟨by rw [HA.out.1, HA.out.2.1]; rfl, F, Chg.of_below (HB2.out.trans (HB5.out.mono HB2.out.size)), by rw [HA.out.2.2]; exact HM2.out.below HB5.out⟩
        · have HNN : RowKit.Hid (∀ r ∈ q.take (i + 1), com r s ≤ 0) := Lib.hid (fun r h => by
            rw [take_succ' q i k HK.out] at h
            rcases List.mem_append.1 h with h | h
            · exact HNO.out r h
            · simp at h; subst h; omega)
          have hc' : decide (0 < com k s) = false := decide_eq_false hc
          generalize com k s = c at *
          go_wp2_with fail
          exact ⟨⟨i + 1, hil, by simp, HNN, HB5.out⟩, by simp [intOf]; omega⟩
      · have hil2 : i = q.length := by omega
        have hnb : ¬ busy q s = true := fun h => by
          obtain ⟨r, h1, h2⟩ := (busy_iff q s).1 h
          have := HNO.out r (by rw [hil2, List.take_length]; exact h1)
          omega
        have HA : RowKit.Hid (dele q a b = 0 ∧ deln l q a b = cntL l s ∧ dell l q a b = delL l s) := Lib.hid (by
          have h1 : dele q a b = 0 := by unfold dele; rw [if_pos HW.out, if_neg (by rw [← HSS.out]; exact hnb)]
          exact ⟨h1, by unfold deln; rw [if_pos h1, HSS.out], by unfold dell; rw [if_pos h1, HSS.out]⟩)
        have HM3 := Lib.hid (HM2.out.below hbr)
        have HB3 := Lib.hid (HB2.out.trans (hbr.mono HB2.out.size))
        have hX3 := hX.below hbr
        clear hnb hil hi c0 c1 hT hQ
        clear hbr
        go_wp2_with fail
        refine (count_any g F l q a b wr HM3.out (by omega) HR.out (by omega)).mono ?_
        rintro e w4 ⟨rfl, hb4⟩
        rw [← HSS.out]
        have HM4 := Lib.hid (HM3.out.below hb4)
        have HB4 := Lib.hid (HB3.out.trans (hb4.mono HB3.out.size))
        have hX4 := hX3.below hb4
        obtain ⟨al, cl, aq, cq, c0, c1, hT, hQ⟩ := HM4.out.cells
        clear hb4 hX3 hX c1 hQ HM3
        go_wp2_with fail
        have HX4 := Lib.hid hX4
        have HT4 := Lib.hid hT
        clear hX4 hT c0
        go_loopw [13, 49] (fun o s' wr => ∃ (i : Nat) (lo : List R2), i ≤ l.length ∧ s' = .int .i64 (i : Nat) ∧ lo.length ≤ 2 * i ∧ RowKit.Hid (lo = delL (l.take i) s ∧ Told wr o lo ∧ Chg [] (vblk o) w4 wr)) (fun _ s' _ => l.length - (intOf s').toNat)
        case atStart => exact ⟨0, [], Nat.zero_le _, rfl, Nat.le_refl _, Lib.hid ⟨rfl, Sq.nil _ _ _, by rw [vblk_nil]; exact Chg.refl _ _⟩⟩
        case round =>
          obtain ⟨i, lo, hi, rfl, hlo, HL⟩ := hrel
          have hbr : Below w4.heap.size w4 wr := HL.out.2.2.below (fun b hb => by simp at hb) (Nat.le_refl _)
          by_cases hil : i < l.length
          · obtain ⟨bl, cl', hv, hbl, hcell⟩ := (HT4.out.below hbr).read (ne_nil_of_lt hil)
            cases hv
            have hk := List.getElem?_eq_getElem hil
            generalize l[i] = k at hk
            obtain ⟨e0, e1⟩ := hcell i k hk
            have hkr := HR.out k (List.mem_of_getElem? hk)
            have hiI : ((i : Nat) : Int) < ((l.length : Nat) : Int) := by omega
            have hA : Below wr.heap.size wr (wr.alloc (.cells #[.int .i64 k.a, .int .i64 k.b] 30)) := (Below.refl _ wr).alloc (Nat.le_refl _) _
            obtain ⟨s0, s1⟩ := ((HX4.out.below hbr).below hA).cells
            have hK := Box.new wr k
            have HL5 : RowKit.Hid (lo = delL (l.take i) s ∧ Told (wr.alloc (.cells #[.int .i64 k.a, .int .i64 k.b] 30)) u13 lo ∧ Chg [] (vblk u13) w4 (wr.alloc (.cells #[.int .i64 k.a, .int .i64 k.b] 30))) := Lib.hid ⟨HL.out.1, HL.out.2.1.below hA, HL.out.2.2.trans (Chg.of_below hA)⟩
            have HSN := Lib.hid (delL_snoc l s i k hk)
            have HLT := Lib.hid HL.out.2.1.lt
            clear hcell hk hA hbr HL
            go_upto_region 16 with fail
            clear e0 e1
            generalize wr.alloc (.cells #[.int .i64 k.a, .int .i64 k.b] 30) = w5 at *
            obtain ⟨T, hTT⟩ : ∃ T, wr.heap.size = T := ⟨_, rfl⟩
            have HTW := Lib.hid hTT.symm
            rw [hTT] at hK ⊢
            clear hTT
            obtain ⟨k0, k1⟩ := hK.cells
            go_wp2_with fail
            refine (common_any k s w5 hkr HSR.out).mono ?_
            rintro e w6 ⟨rfl, hb6⟩
            have HL6 : RowKit.Hid (lo = delL (l.take i) s ∧ Told w6 u13 lo ∧ Chg [] (vblk u13) w4 w6) := Lib.hid ⟨HL5.out.1, HL5.out.2.1.below hb6, HL5.out.2.2.trans (Chg.of_below hb6)⟩
            replace hK := hK.below hb6
            clear hb6 HL5 s0 s1 k0 k1
            obtain ⟨k0, k1⟩ := hK.cells
            have hcc := cut_cases s k
            have hsa : s.a = a := by rw [HSS.out]
            have hsb : s.b = b := by rw [HSS.out]
            rw [hsa, hsb] at hcc
            have HTO : RowKit.Hid (T ∉ vblk u13) := Lib.hid (fun hm => by rw [HTW.out] at hm; exact Nat.lt_irrefl _ (HLT.out _ hm))
            clear hsa hsb
            obtain ⟨i0, hi0, hz0, hz1, hz2⟩ := info_parts (show (Try.prog.info? 30).map (fun i => (i.zero, i.size, i.bytes)) = some (some (.agg #[.int .i64 0, .int .i64 0]), 2, 16) by kernel_rfl)
            rcases hcc with ⟨hc, ce⟩ | ⟨hc, q1, q2, ce⟩ | ⟨hc, q1, q2, ce⟩ | ⟨hc, q1, q2, ce⟩ | ⟨hc, q1, q2, ce⟩
            · have HCE := Lib.hid ce
              rw [hc]
              clear hc ce
              obtain ⟨ao1, cap1, rfl, _, _⟩ := HL6.out.2.1.slice
              have hA1 : Below w6.heap.size w6 (w6.alloc (.cells #[.int .i64 k.a, .int .i64 k.b] 30)) := (Below.refl _ w6).alloc (Nat.le_refl _) _
              have hown1 := HL6.out.2.1.below hA1
              have hnew1 := news_alloc w6 #[.int .i64 k.a, .int .i64 k.b] 30
              have HC1 := Lib.hid (HL6.out.2.2.trans (Chg.of_below hA1))
              have HKA := Lib.hid (hK.below hA1)
              have HTN : RowKit.Hid (T ∉ vblk (.slice ao1 lo.length cap1)) := Lib.hid (fun hm => HTO.out (by simpa using hm))
              clear hA1
              go_wp2_with (at_builtin; refine wpList_append_any _ rfl (.tmp 57) (.tmp 59) 28 rfl 30 i0 (.agg #[.int .i64 0, .int .i64 0]) 2 16 Try.underlying28 hi0 hz0 hz1 hz2 rfl (by decide) (.slice ao1 lo.length cap1) lo.length (rc lo) rfl hown1 (some ⟨w6.heap.size, 0, none⟩) 1 1 (rc [k]) rfl (fun h => by cases h) rfl (fun a ha => by cases ha; rw [rc_one]; exact hnew1) (rc_onecell _) (by unfold maxLen; omega) (by omega) ?_; intro v2 w7 hown2 hgr2; have hK7 := HKA.out.chg hgr2 HTN.out; obtain ⟨m0, m1⟩ := hK7.cells)
              exact ⟨⟨i + 1, lo ++ [k], hil, by simp, by rw [List.length_append]; simp; omega, Lib.hid ⟨by rw [HSN.out, HCE.out, HL6.out.1], Told.one_more hown2, HC1.out.trans hgr2⟩⟩, by simp [intOf]; omega⟩
            · have HCE := Lib.hid ce
              have hcz : (com k s == 0) = false := by rw [beq_eq_false_iff_ne]; exact hc
              generalize com k s = c at *
              clear hc ce
              obtain ⟨ao1, cap1, rfl, _, _⟩ := HL6.out.2.1.slice
              have hA1 : Below w6.heap.size w6 (w6.alloc (.cells #[.int .i64 k.a, .int .i64 a] 30)) := (Below.refl _ w6).alloc (Nat.le_refl _) _
              have hown1 := HL6.out.2.1.below hA1
              have hnew1 := news_alloc w6 #[.int .i64 k.a, .int .i64 a] 30
              have HC1 := Lib.hid (HL6.out.2.2.trans (Chg.of_below hA1))
              have HKA := Lib.hid (hK.below hA1)
              have HTN : RowKit.Hid (T ∉ vblk (.slice ao1 lo.length cap1)) := Lib.hid (fun hm => HTO.out (by simpa using hm))
              clear hA1
              go_upto_region 20 with (at_builtin; refine wpList_append_any _ rfl (.tmp 65) (.tmp 70) 28 rfl 30 i0 (.agg #[.int .i64 0, .int .i64 0]) 2 16 Try.underlying28 hi0 hz0 hz1 hz2 rfl (by decide) (.slice ao1 lo.length cap1) lo.length (rc lo) rfl hown1 (some ⟨w6.heap.size, 0, none⟩) 1 1 (rc [⟨k.a, a⟩]) rfl (fun h => by cases h) rfl (fun a ha => by cases ha; rw [rc_one]; exact hnew1) (rc_onecell _) (by unfold maxLen; omega) (by omega) ?_; intro v2 w7 hown2 hgr2)
              have hT2 := Told.one_more (k := ⟨k.a, a⟩) hown2
              have HL8 := Lib.hid (And.intro hT2 (HC1.out.trans hgr2))
              have hK8 := HKA.out.chg hgr2 HTN.out
              clear hown2 hgr2 hT2 hown1 hnew1 k0 k1
              obtain ⟨k0, k1⟩ := hK8.cells
              obtain ⟨lo2, hlo2⟩ : ∃ lo2, lo ++ [(⟨k.a, a⟩ : R2)] = lo2 := ⟨_, rfl⟩
              have hl2 : lo2.length = lo.length + 1 := by rw [← hlo2, List.length_append]; rfl
              rw [hlo2] at HL8
              have HLO := Lib.hid hlo2
              clear hlo2
              obtain ⟨ao2, cap2, rfl, _, _⟩ := HL8.out.1.slice
              have hA2 : Below w7.heap.size w7 (w7.alloc (.cells #[.int .i64 b, .int .i64 k.b] 30)) := (Below.refl _ w7).alloc (Nat.le_refl _) _
              have hown1 := HL8.out.1.below hA2
              have hnew2 := news_alloc w7 #[.int .i64 b, .int .i64 k.b] 30
              have HC2 := Lib.hid (HL8.out.2.trans (Chg.of_below hA2))
              clear hA2

              go_wp2_with (at_builtin; refine wpList_append_any _ rfl (.tmp 76) (.tmp 81) 28 rfl 30 i0 (.agg #[.int .i64 0, .int .i64 0]) 2 16 Try.underlying28 hi0 hz0 hz1 hz2 rfl (by decide) (.slice ao2 lo2.length cap2) lo2.length (rc lo2) rfl hown1 (some ⟨w7.heap.size, 0, none⟩) 1 1 (rc [⟨b, k.b⟩]) rfl (fun h => by cases h) rfl (fun a ha => by cases ha; rw [rc_one]; exact hnew2) (rc_onecell _) (by unfold maxLen; omega) (by omega) ?_; intro v3 w9 hown3 hgr3)
              exact ⟨⟨i + 1, lo2 ++ [⟨b, k.b⟩], hil, by simp, by rw [List.length_append]; simp; omega, Lib.hid ⟨by rw [HSN.out, HCE.out, HL6.out.1.symm, ← HLO.out]; simp, Told.one_more hown3, HC2.out.trans hgr3⟩⟩, by simp [intOf]; omega⟩
            · have HCE := Lib.hid ce
              have hcz : (com k s == 0) = false := by rw [beq_eq_false_iff_ne]; exact hc
              generalize com k s = c at *
              clear hc ce
              obtain ⟨ao1, cap1, rfl, _, _⟩ := HL6.out.2.1.slice
              have hA1 : Below w6.heap.size w6 (w6.alloc (.cells #[.int .i64 k.a, .int .i64 a] 30)) := (Below.refl _ w6).alloc (Nat.le_refl _) _
              have hown1 := HL6.out.2.1.below hA1
              have hnew1 := news_alloc w6 #[.int .i64 k.a, .int .i64 a] 30
              have HC1 := Lib.hid (HL6.out.2.2.trans (Chg.of_below hA1))
              have HKA := Lib.hid (hK.below hA1)
              have HTN : RowKit.Hid (T ∉ vblk (.slice ao1 lo.length cap1)) := Lib.hid (fun hm => HTO.out (by simpa using hm))
              clear hA1
              go_wp2_with (at_builtin; refine wpList_append_any _ rfl (.tmp 65) (.tmp 70) 28 rfl 30 i0 (.agg #[.int .i64 0, .int .i64 0]) 2 16 Try.underlying28 hi0 hz0 hz1 hz2 rfl (by decide) (.slice ao1 lo.length cap1) lo.length (rc lo) rfl hown1 (some ⟨w6.heap.size, 0, none⟩) 1 1 (rc [⟨k.a, a⟩]) rfl (fun h => by cases h) rfl (fun a ha => by cases ha; rw [rc_one]; exact hnew1) (rc_onecell _) (by unfold maxLen; omega) (by omega) ?_; intro v2 w7 hown2 hgr2; have hK7 := HKA.out.chg hgr2 HTN.out; obtain ⟨m0, m1⟩ := hK7.cells)
              exact ⟨⟨i + 1, lo ++ [⟨k.a, a⟩], hil, by simp, by rw [List.length_append]; simp; omega, Lib.hid ⟨by rw [HSN.out, HCE.out, HL6.out.1], Told.one_more hown2, HC1.out.trans hgr2⟩⟩, by simp [intOf]; omega⟩
            · have HCE := Lib.hid ce
              have hcz : (com k s == 0) = false := by rw [beq_eq_false_iff_ne]; exact hc
              generalize com k s = c at *
              clear hc ce
              obtain ⟨ao1, cap1, rfl, _, _⟩ := HL6.out.2.1.slice
              have hA1 : Below w6.heap.size w6 (w6.alloc (.cells #[.int .i64 b, .int .i64 k.b] 30)) := (Below.refl _ w6).alloc (Nat.le_refl _) _
              have hown1 := HL6.out.2.1.below hA1
              have hnew1 := news_alloc w6 #[.int .i64 b, .int .i64 k.b] 30
              have HC1 := Lib.hid (HL6.out.2.2.trans (Chg.of_below hA1))
              have HKA := Lib.hid (hK.below hA1)
              have HTN : RowKit.Hid (T ∉ vblk (.slice ao1 lo.length cap1)) := Lib.hid (fun hm => HTO.out (by simpa using hm))
              clear hA1
              go_wp2_with (at_builtin; refine wpList_append_any _ rfl (.tmp 76) (.tmp 81) 28 rfl 30 i0 (.agg #[.int .i64 0, .int .i64 0]) 2 16 Try.underlying28 hi0 hz0 hz1 hz2 rfl (by decide) (.slice ao1 lo.length cap1) lo.length (rc lo) rfl hown1 (some ⟨w6.heap.size, 0, none⟩) 1 1 (rc [⟨b, k.b⟩]) rfl (fun h => by cases h) rfl (fun a ha => by cases ha; rw [rc_one]; exact hnew1) (rc_onecell _) (by unfold maxLen; omega) (by omega) ?_; intro v2 w7 hown2 hgr2; have hK7 := HKA.out.chg hgr2 HTN.out; obtain ⟨m0, m1⟩ := hK7.cells)
              exact ⟨⟨i + 1, lo ++ [⟨b, k.b⟩], hil, by simp, by rw [List.length_append]; simp; omega, Lib.hid ⟨by rw [HSN.out, HCE.out, HL6.out.1], Told.one_more hown2, HC1.out.trans hgr2⟩⟩, by simp [intOf]; omega⟩
            · have HCE := Lib.hid ce
              have hcz : (com k s == 0) = false := by rw [beq_eq_false_iff_ne]; exact hc
              generalize com k s = c at *
              clear hc ce
              go_wp2_with fail
              exact ⟨⟨i + 1, lo, hil, by simp, by omega, Lib.hid ⟨by rw [HSN.out, HCE.out, List.append_nil]; exact HL6.out.1, HL6.out.2⟩⟩, by simp [intOf]; omega⟩
          · have hil2 : i = l.length := by omega
            obtain ⟨aoz, capz, rfl, _, _⟩ := HL.out.2.1.slice
            have hl := HL.out.1
            rw [hil2, List.take_length] at hl
            subst hl
            obtain ⟨vl, vq, rfl, m1, m2, m3, m4, m5, m6⟩ := HM4.out
            obtain ⟨y1, y2⟩ := Mp.setl m1 m2 m3 m4 m6 (HL.out.2.2.mono (fun x hx => by simp at hx)) HL.out.2.1
            have hg4 := (hbr.block g (lt_of_block m4)).trans m4
            have g4 := cell_of_row wr g 0 _ 52 _ hg4
            have f4 := frozen_of_row wr g 0 _ 52 hg4
            replace g4 : wr.cell? ⟨g, 0, none⟩ = some vl := g4
            have HY := Lib.hid (And.intro ((Chg.of_below HB4.out).trans y1) y2)
            clear m1 m2 m3 m4 m5 m6 y1 y2 hg4
            go_wp2_with fail
            refine bodyPost_ret (results_tmp2 rfl _ _ _) rfl ⟨by rw [HA.out.1, HA.out.2.1]; rfl, _, HY.out.1, by rw [HA.out.2.2]; exact HY.out.2⟩
  · have HA : RowKit.Hid (dele q a b = 3 ∧ deln l q a b = 0 ∧ dell l q a b = l) := Lib.hid (by
      have h1 : dele q a b = 3 := by unfold dele; rw [if_neg hw]
      exact ⟨h1, by unfold deln; rw [if_neg (by omega)], by unfold dell; rw [if_neg (by omega)]⟩)
    rw [wrg_no hw]
    clear hw
    go_wp2_with fail
    refine bodyPost_ret (results_tmp2 rfl _ _ _) rfl ⟨by rw [HA.out.1, HA.out.2.1]; rfl, F, Chg.refl _ _, by rw [HA.out.2.2]; exact HM.out⟩

end Go.Proofs.Ytnakmjajpfilgaa
