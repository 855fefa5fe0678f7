/- Parts of the proofs of layer 25 (clock): contracts of its functions, and the laws' walks. -/
import Derived.Test.YtehbonhdhblpgaaProg
import Derived.WalkKit
import Derived.WalkSpells
import Derived.WalkLawsBesides
import Derived.BigQuiet
import Derived.Deep.QuietTactic
import Derived.Lib.Hide
import Derived.Deep.RegionHeld3
import Derived.Deep.DeepCutAuto
import Derived.KernelRfl
import Derived.Deep.OwnRows
import Derived.Laws.CopyOwn
import Derived.Laws.CopyRow
import Derived.StillTailTactics
import Derived.Deep.RegionLaw
import Derived.Test.YtehbonhdhblpgaaC15
namespace Go.Proofs.Ytehbonhdhblpgaa
open Go.RowKit
set_option linter.unusedVariables false
set_option linter.unusedSimpArgs false

/-- A key laid into the ring right ahead of the hand. -/
def ins (L : List K) (h : Nat) (nk : K) : List K := L.take h ++ nk :: L.drop h
def insA (L : List K) (h : Nat) (nk : K) (i : Nat) : List K := if h < i then L.take h ++ nk :: (L.take i).drop h else L.take i
theorem insA_step {L : List K} {h i : Nat} {nk k : K} (hk : L[i]? = some k) : insA L h nk (i + 1) = (if i = h then insA L h nk i ++ [nk] else insA L h nk i) ++ [k] := by
  have hi := (List.getElem?_eq_some_iff.1 hk).1
  unfold insA
  by_cases h1 : i = h
  · subst h1
    rw [if_pos rfl, if_pos (by omega), if_neg (by omega), take_succ' L i k hk, List.drop_left' (by rw [List.length_take]; omega)]
    simp
  · rw [if_neg h1]
    by_cases h2 : h < i
    · rw [if_pos h2, if_pos (by omega), take_succ' L i k hk, List.drop_append_of_le_length (by rw [List.length_take]; omega)]
      simp
    · rw [if_neg h2, if_neg (by omega), take_succ' L i k hk]
theorem insA_end {L : List K} {h : Nat} {nk : K} (hh : h < L.length) : insA L h nk L.length = ins L h nk := by
  unfold insA ins
  rw [if_pos hh, List.take_length]
theorem insA_length (L : List K) (h : Nat) (nk : K) (i : Nat) : (insA L h nk i).length ≤ L.length + 1 := by
  unfold insA
  split
  · simp only [List.length_append, List.length_cons, List.length_drop, List.length_take]; omega
  · rw [List.length_take]; omega
def raddL (L : List K) (h : Nat) (x : S) : List K := if idx L x < L.length then L else ins L h ⟨x.s, x.p, true, 0⟩
def raddH (L : List K) (h : Nat) (x : S) : Nat := if idx L x < L.length then h else (h + 1) % (L.length + 1)
set_option maxRecDepth 100000 in
set_option maxHeartbeats 4000000 in
theorem radd_any (g : Nat) (F : List Nat) (L : List K) (h : Nat) (x : S) (w : World) (r : RC w g F L h) (hm : L.length ≤ 900) :
    Calls Try.prog 29 #[.pointer (some ⟨g, 0, none⟩), .agg #[.int .i64 x.s, .int .i64 x.p]] w fun e w' => e = .returned (.int .i64 (acode L x)) ∧ ∃ F', Chg F F' w w' ∧ RC w' g F' (raddL L h x) (raddH L h x) := by
  have hb0 : Below w.heap.size w (w.alloc (.cells #[.int .i64 x.s, .int .i64 x.p] 24)) := (Below.refl _ w).alloc (Nat.le_refl _) _
  have hX := heap_alloc_new w (.cells #[.int .i64 x.s, .int .i64 x.p] 24)
  have HM := Lib.hid (r.below hb0)
  clear r
  go_enter Try.func29, Try.ntmps29
  go_wp2_with fail
  generalize (w.alloc (.cells #[.int .i64 x.s, .int .i64 x.p] 24)) = w0 at hb0 HM hX ⊢
  refine (at_any g F L h x w0 HM.out (by omega)).mono ?_
  rintro e w1 ⟨rfl, hb1⟩
  have HM1 := Lib.hid (HM.out.below hb1)
  have HB := Lib.hid (Chg.of_below (F := F) (hb0.trans (hb1.mono hb0.size)))
  have hX1 := SBox.below (x := x) hX hb1
  clear HM hb0 hb1 hX
  by_cases hx : idx L x < L.length
  · rw [show ares' L x = (idx L x : Nat) from if_pos hx]
    have HR := Lib.hid (show acode L x = 7 from if_pos hx)
    have HT := Lib.hid (And.intro (show raddL L h x = L from if_pos hx) (show raddH L h x = h from if_pos hx))
    generalize idx L x = i at hx ⊢
    have hge : decide (0 ≤ (i : Int)) = true := decide_eq_true (by omega)
    go_wp2_with fail
    exact bodyPost_ret (results_tmp rfl _ _ _) rfl ⟨by rw [HR.out]; rfl, F, HB.out, by rw [HT.out.1, HT.out.2]; exact HM1.out⟩
  · rw [show ares' L x = -1 from if_neg hx]
    have HR := Lib.hid (show acode L x = 0 from if_neg hx)
    have HT := Lib.hid (And.intro (show raddL L h x = ins L h ⟨x.s, x.p, true, 0⟩ from if_neg hx) (show raddH L h x = (h + 1) % (L.length + 1) from if_neg hx))
    clear hx
    obtain ⟨d0, d1⟩ := hX1.cells
    obtain ⟨v, rfl, h1, h2, h3, h4⟩ := HM1.out
    obtain ⟨ao, cap, rfl, hnc, hcm⟩ := h3.slice
    have c0 : w1.cell? ⟨g, 0, none⟩ = some (.slice ao L.length cap) := cell_of_row w1 g 0 _ 42 _ h2
    have c1 : w1.cell? ⟨g, 1, none⟩ = some (.int .i64 (h : Nat)) := cell_of_row w1 g 1 _ 42 _ h2
    obtain ⟨N, hN⟩ : ∃ N, L.length = N := ⟨_, rfl⟩
    have HN := Lib.hid hN
    have H2 := Lib.hid h2
    rw [hN] at c0 hm hnc h4 h3
    clear hN h2 hX1 HM1
    obtain ⟨i0, hi0, hz0, hz1, hz2⟩ := info_parts (show (Try.prog.info? 45).map (fun i => (i.zero, i.size, i.bytes)) = some (some (.agg #[.int .i64 0, .int .i64 0, .bool false, .int .i64 0]), 4, 32) by kernel_rfl)
    go_wp2_with fail
    go_loopw [5, 6] (fun o s wr => ∃ (i : Nat) (l : List K), i ≤ N ∧ s = .int .i64 (i : Nat) ∧ l = insA L h ⟨x.s, x.p, true, 0⟩ i ∧ l.length ≤ 901 ∧ RowKit.Hid (Sq wr 45 4 o l.length (kc l) ∧ Chg [] (vblk o) w1 wr)) (fun _ s _ => N - (intOf s).toNat)
    case atStart => exact ⟨0, [], Nat.zero_le _, rfl, by simp [insA], by simp, Lib.hid ⟨Sq.nil _ _ _, by rw [vblk_nil]; exact Chg.refl _ _⟩⟩
    case round =>
      obtain ⟨i, l, hi, rfl, hl, hll, HR2⟩ := hrel
      have hbr : Below w1.heap.size w1 wr := HR2.out.2.below (fun b hb => by simp at hb) (Nat.le_refl _)
      have c0r := cell_keep hbr c0
      have c1r := cell_keep hbr c1
      have d0r := cell_keep hbr d0
      have d1r := cell_keep hbr d1
      have HLL := Lib.hid hl
      clear hl hbr
      by_cases hlt : i < N
      · have hk := List.getElem?_eq_getElem (show i < L.length by rw [HN.out]; exact hlt)
        generalize L[i]'(by rw [HN.out]; exact hlt) = k at hk
        have HKK := Lib.hid hk
        have hle : (insA L h ⟨x.s, x.p, true, 0⟩ (i + 1)).length ≤ 901 := Nat.le_trans (insA_length _ _ _ _) (by rw [HN.out]; omega)
        rw [insA_step hk, ← HLL.out] at hle
        obtain ⟨ao2, cap2, rfl, _, _⟩ := HR2.out.1.slice
        by_cases hih : i = h
        · have hA : Below wr.heap.size wr (wr.alloc (.cells #[.int .i64 x.s, .int .i64 x.p, .bool true, .int .i64 0] 45)) := (Below.refl _ wr).alloc (Nat.le_refl _) _
          have hown0 := HR2.out.1.below hA
          have hnew := news_alloc wr #[.int .i64 x.s, .int .i64 x.p, .bool true, .int .i64 0] 45
          have HC := Lib.hid (HR2.out.2.trans (Chg.of_below hA))
          rw [if_pos hih, List.length_append, List.length_append, List.length_singleton, List.length_singleton] at hle
          clear hA HR2
          subst hih
          go_upto_region 9 with (at_builtin; refine wpList_append_any _ rfl (.tmp 26) (.tmp 29) 40 rfl 45 i0 (.agg #[.int .i64 0, .int .i64 0, .bool false, .int .i64 0]) 4 32 Try.underlying40 hi0 hz0 hz1 hz2 rfl (by decide) (.slice ao2 l.length cap2) l.length (kc l) rfl hown0 (some ⟨wr.heap.size, 0, none⟩) 1 1 (kc [⟨x.s, x.p, true, 0⟩]) rfl (fun h => by cases h) rfl (fun a ha => by cases ha; rw [kc_one]; exact hnew) (kc_onecell _) (by unfold maxLen; omega) (by omega) ?_; intro v' w3 hown3 hgr3; obtain ⟨ao9, cap9, rfl, _, _⟩ := Sq.slice hown3)
          obtain ⟨l9, hl9⟩ : ∃ l9, l ++ [⟨x.s, x.p, true, 0⟩] = l9 := ⟨_, rfl⟩
          have HM9 : RowKit.Hid (l9.length = l.length + 1) := Lib.hid (by rw [← hl9]; simp)
          have HL9 : RowKit.Hid (l9 = if i = i then insA L i ⟨x.s, x.p, true, 0⟩ i ++ [⟨x.s, x.p, true, 0⟩] else insA L i ⟨x.s, x.p, true, 0⟩ i) := Lib.hid (by rw [if_pos rfl, ← HLL.out]; exact hl9.symm)
          have H9 : RowKit.Hid (Sq w3 45 4 (.slice ao9 (l.length + 1) cap9) (l.length + 1) (kc l9) ∧ Chg [] (vblk (.slice ao9 (l.length + 1) cap9)) w1 w3) := Lib.hid ⟨by rw [← hl9, kc_append]; exact hown3, HC.out.trans hgr3⟩
          clear hl9 hown3 hgr3 HC hown0 hnew c0r c1r d0r d1r hk
          obtain ⟨g0, g1, g2, g3⟩ := kc_get L i k HKK.out
          rcases h3.cases with ⟨_, h0⟩ | ⟨b, cap', hv, _, _, hbl, hcell, _⟩
          · omega
          cases hv
          have hb9 : Below w1.heap.size w1 w3 := H9.out.2.below (fun b hb => by simp at hb) (Nat.le_refl _)
          have e0 := cell_keep hb9 (hcell _ _ g0)
          have e1 := cell_keep hb9 (hcell _ _ g1)
          have e2 := cell_keep hb9 (hcell _ _ g2)
          have e3 := cell_keep hb9 (hcell _ _ g3)
          have c09 := cell_keep hb9 c0
          have c19 := cell_keep hb9 c1
          have hiI : ((i : Nat) : Int) < ((N : Nat) : Int) := by omega
          clear g0 g1 g2 g3 hcell hb9
          have hA9 : Below w3.heap.size w3 (w3.alloc (.cells #[.int .i64 k.s, .int .i64 k.p, .bool k.t, .int .i64 k.a] 45)) := (Below.refl _ w3).alloc (Nat.le_refl _) _
          have hown9 := H9.out.1.below hA9
          have hnew9 := news_alloc w3 #[.int .i64 k.s, .int .i64 k.p, .bool k.t, .int .i64 k.a] 45
          have HC9 := Lib.hid (H9.out.2.trans (Chg.of_below hA9))
          clear hA9 H9
          go_wp2_with (at_builtin; refine wpList_append_any _ rfl (.tmp 31) (.tmp 39) 40 rfl 45 i0 (.agg #[.int .i64 0, .int .i64 0, .bool false, .int .i64 0]) 4 32 Try.underlying40 hi0 hz0 hz1 hz2 rfl (by decide) (.slice ao9 (l.length + 1) cap9) (l.length + 1) (kc l9) rfl hown9 (some ⟨w3.heap.size, 0, none⟩) 1 1 (kc [k]) rfl (fun h => by cases h) rfl (fun a ha => by cases ha; rw [kc_one]; exact hnew9) (kc_onecell _) (by unfold maxLen; omega) (by omega) ?_; intro v' w4 hown4 hgr4)
          refine ⟨⟨i + 1, l9 ++ [k], hlt, by simp, ?_, by rw [List.length_append, List.length_singleton, HM9.out]; omega, Lib.hid ⟨?_, HC9.out.trans hgr4⟩⟩, by simp [intOf]; omega⟩
          · rw [insA_step HKK.out, ← HL9.out]
          · rw [List.length_append, List.length_singleton, HM9.out, kc_append]
            exact hown4
        · rw [if_neg hih, List.length_append, List.length_singleton] at hle
          have hne : ((i : Int) == (h : Int)) = false := by rw [beq_eq_false_iff_ne]; omega
          go_upto_region 9 with fail
          obtain ⟨l9, ao9, cap9, hl9, ha9, hc9⟩ : ∃ l9 ao9 cap9, l = l9 ∧ ao2 = ao9 ∧ cap2 = cap9 := ⟨_, _, _, rfl, rfl, rfl⟩
          subst hl9
          subst ha9
          subst hc9
          have HM9 : RowKit.Hid (l.length = l.length) := Lib.hid rfl
          have HL9 : RowKit.Hid (l = if i = h then insA L h ⟨x.s, x.p, true, 0⟩ i ++ [⟨x.s, x.p, true, 0⟩] else insA L h ⟨x.s, x.p, true, 0⟩ i) := Lib.hid (by rw [if_neg hih]; exact HLL.out)
          have H9 := HR2
          clear hk hih
          obtain ⟨g0, g1, g2, g3⟩ := kc_get L i k HKK.out
          rcases h3.cases with ⟨_, h0⟩ | ⟨b, cap', hv, _, _, hbl, hcell, _⟩
          · omega
          cases hv
          have hb9 : Below w1.heap.size w1 wr := H9.out.2.below (fun b hb => by simp at hb) (Nat.le_refl _)
          have e0 := cell_keep hb9 (hcell _ _ g0)
          have e1 := cell_keep hb9 (hcell _ _ g1)
          have e2 := cell_keep hb9 (hcell _ _ g2)
          have e3 := cell_keep hb9 (hcell _ _ g3)
          have c09 := cell_keep hb9 c0
          have c19 := cell_keep hb9 c1
          have hiI : ((i : Nat) : Int) < ((N : Nat) : Int) := by omega
          clear g0 g1 g2 g3 hcell hb9
          have hA9 : Below wr.heap.size wr (wr.alloc (.cells #[.int .i64 k.s, .int .i64 k.p, .bool k.t, .int .i64 k.a] 45)) := (Below.refl _ wr).alloc (Nat.le_refl _) _
          have hown9 := H9.out.1.below hA9
          have hnew9 := news_alloc wr #[.int .i64 k.s, .int .i64 k.p, .bool k.t, .int .i64 k.a] 45
          have HC9 := Lib.hid (H9.out.2.trans (Chg.of_below hA9))
          clear hA9 H9
          go_wp2_with (at_builtin; refine wpList_append_any _ rfl (.tmp 31) (.tmp 39) 40 rfl 45 i0 (.agg #[.int .i64 0, .int .i64 0, .bool false, .int .i64 0]) 4 32 Try.underlying40 hi0 hz0 hz1 hz2 rfl (by decide) (.slice ao2 (l.length) cap2) (l.length) (kc l) rfl hown9 (some ⟨wr.heap.size, 0, none⟩) 1 1 (kc [k]) rfl (fun h => by cases h) rfl (fun a ha => by cases ha; rw [kc_one]; exact hnew9) (kc_onecell _) (by unfold maxLen; omega) (by omega) ?_; intro v' w4 hown4 hgr4)
          refine ⟨⟨i + 1, l ++ [k], hlt, by simp, ?_, by rw [List.length_append, List.length_singleton, HM9.out]; omega, Lib.hid ⟨?_, HC9.out.trans hgr4⟩⟩, by simp [intOf]; omega⟩
          · rw [insA_step HKK.out, ← HL9.out]
          · rw [List.length_append, List.length_singleton, HM9.out, kc_append]
            exact hown4
      · have hiN : i = N := by omega
        subst hiN
        clear hlt
        have hb4 : Below w1.heap.size w1 wr := HR2.out.2.below (fun b hb => by simp at hb) (Nat.le_refl _)
        have hg4 := (hb4.block g (lt_of_block H2.out)).trans H2.out
        have H5 : RowKit.Hid (∀ o' w5 L' Q, Sq w5 45 4 o' L'.length (kc L') → Chg [] (vblk o') w1 w5 → L' = ins L h ⟨x.s, x.p, true, 0⟩ → Q = (h + 1) % (i + 1) → Chg (g :: vblk (.slice ao L.length cap)) (g :: vblk o') w ((w5.setCell ⟨g, 0, none⟩ o').setCell ⟨g, 1, none⟩ (.int .i64 (Q : Nat))) ∧ RC ((w5.setCell ⟨g, 0, none⟩ o').setCell ⟨g, 1, none⟩ (.int .i64 (Q : Nat))) g (g :: vblk o') (raddL L h x) (raddH L h x)) := Lib.hid (by
          intro o' w5 L' Q hs hc hL' hQ
          have hgv : g ∉ vblk o' := hc.out (by simp) (lt_of_block H2.out)
          have hg5 := (hc.block (lt_of_block H2.out) (by simp)).trans H2.out
          refine ⟨((HB.out.trans ((hc.cons g).mono (fun b hb => by simp at hb; simp [hb]))).setCell _ _ _ (List.mem_cons_self ..)).setCell _ _ _ (List.mem_cons_self ..), ?_⟩
          rw [HT.out.1, HT.out.2, ← hL', HN.out, ← hQ]
          have hl5 : L'.length = i + 1 := by
            rw [hL']
            unfold ins
            rw [List.length_append, List.length_cons, List.length_take, List.length_drop, HN.out]
            omega
          refine ⟨o', rfl, hgv, ?_, ?_, .inl ?_⟩
          · exact heap_setCell_same _ g 1 _ 42 _ (heap_setCell_same w5 g 0 _ 42 _ hg5)
          · exact (hs.of_blocks fun b hb => Below.heap_setCell _ _ _ _ (fun e => hgv (by cases e; exact hb))).of_blocks fun b hb => Below.heap_setCell _ _ _ _ (fun e => hgv (by cases e; exact hb))
          · rw [hl5, hQ]
            exact Nat.mod_lt _ (by omega))
        by_cases hi0 : i = 0
        · subst hi0
          have hL0 : L = [] := List.eq_nil_of_length_eq_zero HN.out
          have hh0 : h = 0 := by
            rcases h4 with h4 | ⟨_, h4⟩
            · omega
            · exact h4
          have hl0 : l = [] := by rw [HLL.out, hL0]; simp [insA]
          subst hh0
          subst hl0
          have HL0 := Lib.hid hL0
          clear hL0 HLL h4 hll
          obtain ⟨ao2, cap2, rfl, _, _⟩ := HR2.out.1.slice
          rw [List.length_nil] at HR2
          have d0r := cell_keep hb4 d0
          have d1r := cell_keep hb4 d1
          have hA : Below wr.heap.size wr (wr.alloc (.cells #[.int .i64 x.s, .int .i64 x.p, .bool true, .int .i64 0] 45)) := (Below.refl _ wr).alloc (Nat.le_refl _) _
          have hown0 := HR2.out.1.below hA
          have hnew := news_alloc wr #[.int .i64 x.s, .int .i64 x.p, .bool true, .int .i64 0] 45
          have HC := Lib.hid (HR2.out.2.trans (Chg.of_below hA))
          clear hA HR2 hb4 hg4
          go_wp2_with (at_builtin; refine wpList_append_any _ rfl (.tmp 47) (.tmp 50) 40 rfl 45 i0 (.agg #[.int .i64 0, .int .i64 0, .bool false, .int .i64 0]) 4 32 Try.underlying40 hi0 hz0 hz1 hz2 rfl (by decide) (.slice ao2 0 cap2) 0 (kc []) rfl hown0 (some ⟨wr.heap.size, 0, none⟩) 1 1 (kc [⟨x.s, x.p, true, 0⟩]) rfl (fun h => by cases h) rfl (fun a ha => by cases ha; rw [kc_one]; exact hnew) (kc_onecell _) (by unfold maxLen; omega) (by omega) ?_; intro v' w3 hown3 hgr3; obtain ⟨ao9, cap9, rfl, _, _⟩ := Sq.slice hown3; have hc3 := HC.out.trans hgr3; have hg3 := (hc3.block (lt_of_block H2.out) (by simp)).trans H2.out; have c03 := cell_of_row w3 g 0 _ 42 _ hg3; have c13 := cell_of_row w3 g 1 _ 42 _ hg3; have f03 := frozen_of_row w3 g 0 _ 42 hg3; have f13 := frozen_of_row w3 g 1 _ 42 hg3; replace c03 : w3.cell? ⟨g, 0, none⟩ = some (.slice ao L.length cap) := c03; replace c13 : w3.cell? ⟨g, 1, none⟩ = some (.int .i64 ((0 : Nat) : Int)) := c13; clear hg3)
          have h6 := H5.out (.slice ao9 1 cap9) w3 [⟨x.s, x.p, true, 0⟩] 0 hown3 hc3 (by rw [HL0.out]; simp [ins]) (by simp)
          exact bodyPost_ret (results_tmp rfl _ _ _) rfl ⟨by rw [HR.out]; rfl, _, h6⟩
        · have hl := HLL.out
          have hhN : h < L.length := by
            rw [HN.out]
            rcases h4 with h4 | ⟨h4, _⟩
            · exact h4
            · exfalso
              have := HN.out
              rw [h4] at this
              simp at this
              omega
          have hie : i = L.length := HN.out.symm
          rw [hie, insA_end hhN] at hl
          obtain ⟨M, hM⟩ : ∃ M, l.length = M := ⟨_, rfl⟩
          have hMi : M = i + 1 := by
            rw [← hM, hl]
            unfold ins
            rw [List.length_append, List.length_cons, List.length_take, List.length_drop, HN.out]
            have := HN.out
            omega
          obtain ⟨ao2, cap2, rfl, _, _⟩ := HR2.out.1.slice
          rw [hM] at HR2 ⊢
          have HLE := Lib.hid hl
          have HMM := Lib.hid (And.intro hM hMi)
          have hw1 : IntKind.i64.wrap ((h : Int) + 1) = (h : Int) + 1 := by rw [IntKind.wrap_i64]; rw [HN.out] at hhN; omega
          obtain ⟨Q, hQ⟩ : ∃ Q, (h + 1) % M = Q := ⟨_, rfl⟩
          have hm1 : ((h : Int) + 1).tmod (M : Int) = (Q : Nat) := by rw [← hQ]; exact tmod_int h 1 M
          have hMz : ¬ M = 0 := by omega
          have hiz : ¬ (i : Int) = 0 := by omega
          have HQ := Lib.hid hQ
          have c03 : wr.cell? ⟨g, 0, none⟩ = some (.slice ao L.length cap) := cell_of_row wr g 0 _ 42 _ hg4
          have f03 := frozen_of_row wr g 0 _ 42 hg4
          have f13 := frozen_of_row wr g 1 _ 42 hg4
          clear hM hMi hl HLL hQ hie hg4 hb4 hhN h4
          go_wp2_with fail
          have h6 := H5.out (.slice ao2 M cap2) wr l Q (by rw [HMM.out.1]; exact HR2.out.1) HR2.out.2 HLE.out (by rw [← HMM.out.2]; exact HQ.out.symm)
          exact bodyPost_ret (results_tmp rfl _ _ _) rfl ⟨by rw [HR.out]; rfl, _, h6⟩

end Go.Proofs.Ytehbonhdhblpgaa
