/- Parts of the proofs of layer 25 (clock): contracts of its functions, and the laws' walks. -/
import Derived.Test.YtehbonhdhblpgaaProg
import Derived.WalkKit
import Derived.WalkSpells
import Derived.WalkLawsBesides
import Derived.BigQuiet
import Derived.Deep.QuietTactic
import Derived.Lib.Hide
import Derived.Deep.RegionHeld3
import Derived.Deep.DeepCutAuto
import Derived.KernelRfl
import Derived.Deep.OwnRows
import Derived.Laws.CopyOwn
import Derived.Laws.CopyRow
import Derived.StillTailTactics
import Derived.Deep.RegionLaw
import Derived.Test.YtehbonhdhblpgaaC3
namespace Go.Proofs.Ytehbonhdhblpgaa
open Go.RowKit
set_option linter.unusedVariables false
set_option linter.unusedSimpArgs false

/-- The cells of spots in a row. -/
def sc (l : List S) : List Value := l.flatMap S.cs
theorem sc_length (l : List S) : (sc l).length = l.length * 2 := flat_length _ 2 S.cs_length l
theorem sc_get (l : List S) (i : Nat) (k : S) (h : l[i]? = some k) : (sc l)[i * 2]? = some (.int .i64 k.s) ∧ (sc l)[i * 2 + 1]? = some (.int .i64 k.p) := by
  have h0 := flat_get S.cs 2 S.cs_length l i 0 (by decide)
  have h1 := flat_get S.cs 2 S.cs_length l i 1 (by decide)
  rw [h] at h0 h1
  exact ⟨h0, h1⟩
theorem sc_one (k : S) : sc [k] = k.cs := by simp [sc]
theorem sc_append (a b : List S) : sc (a ++ b) = sc a ++ sc b := by simp [sc]
theorem sc_onecell (k : S) : ∀ u ∈ sc [k], u.oneCell' = true := by
  intro u hu
  rw [sc_one] at hu
  simp only [S.cs, List.mem_cons, List.not_mem_nil, or_false] at hu
  rcases hu with rfl | rfl <;> rfl
/-- A new block's cells, as news. -/
theorem news_alloc (w : World) (cs : Array Value) (e : TypeId) : ∀ j u, cs.toList[j]? = some u → (w.alloc (.cells cs e)).cell? ((⟨w.heap.size, 0, none⟩ : Addr).add j) = some u := by
  intro j u hj
  rw [Addr.add_lit, Nat.zero_add]
  simp only [World.cell?, Deep.blk_alloc_new]
  simpa using hj
theorem below_drewN {B : Nat} {a w : World} (h : Below B a w) (n : Nat) : Below B a (w.drewN n) := ⟨h.os, h.tape, h.output, h.size, h.block⟩
/-- Spots told. -/
def Told (w : World) (v : Value) (l : List S) : Prop := Sq w 24 2 v l.length (sc l)
theorem take_succ' {α : Type} (l : List α) (i : Nat) (a : α) (h : l[i]? = some a) : l.take (i + 1) = l.take i ++ [a] := by rw [List.take_add_one, h]; rfl
set_option maxRecDepth 100000 in
set_option maxHeartbeats 4000000 in
theorem all_any (g : Nat) (F : List Nat) (ks : List K) (w : World) (h : Clk w g F ks) (hm : ks.length ≤ 1000) :
    Calls Try.prog 19 #[.pointer (some ⟨g, 0, none⟩)] w fun e w' => ∃ v, e = .returned v ∧ Told w' v (ks.map K.key) ∧ Chg [] (vblk v) w w' := by
  have HM := Lib.hid h
  obtain ⟨v, rfl, h1, h2, h3⟩ := h
  have c0 := cell_of_one h2
  obtain ⟨ao, cap, rfl, hnc, hcm⟩ := h3.slice
  go_enter Try.func19, Try.ntmps19
  go_wp2_with fail
  clear h2 c0
  go_loopw [3, 14] (fun o s wr => ∃ (i : Nat) (l : List S), i ≤ ks.length ∧ s = .int .i64 (i : Nat) ∧ l = (ks.take i).map K.key ∧ RowKit.Hid (Sq wr 24 2 o i (sc l) ∧ Chg [] (vblk o) w wr)) (fun _ s _ => ks.length - (intOf s).toNat)
  case atStart => exact ⟨0, [], Nat.zero_le _, rfl, rfl, Lib.hid ⟨Sq.nil _ _ _, by rw [vblk_nil]; exact Chg.refl _ _⟩⟩
  case round =>
    obtain ⟨i, l, hi, rfl, hl, HR⟩ := hrel
    by_cases hlt : i < ks.length
    · have hk := List.getElem?_eq_getElem hlt
      generalize ks[i] = k at hk
      obtain ⟨g0, g1, g2, g3⟩ := kc_get ks i k hk
      have hbr : Below w.heap.size w wr := HR.out.2.below (fun b hb => by simp at hb) (Nat.le_refl _)
      rcases h3.cases with ⟨_, h0⟩ | ⟨b, cap', hv, _, _, hbl, hcell, _⟩
      · omega
      · cases hv
        have e0 := cell_keep hbr (hcell _ _ g0)
        have e1 := cell_keep hbr (hcell _ _ g1)
        have e2 := cell_keep hbr (hcell _ _ g2)
        have e3 := cell_keep hbr (hcell _ _ g3)
        clear hbr g0 g1 g2 g3
        obtain ⟨ao2, cap2, rfl, hnc2, hcm2⟩ := HR.out.1.slice
        have hA1 : Below wr.heap.size wr (wr.alloc (.cells #[.int .i64 k.s, .int .i64 k.p, .bool k.t, .int .i64 k.a] 59)) := (Below.refl _ wr).alloc (Nat.le_refl _) _
        have hA2 : Below wr.heap.size wr ((wr.alloc (.cells #[.int .i64 k.s, .int .i64 k.p, .bool k.t, .int .i64 k.a] 59)).alloc (.cells #[.int .i64 k.s, .int .i64 k.p] 24)) := hA1.alloc (by simp) _
        have hown0 := HR.out.1.below hA2
        have hnew := news_alloc (wr.alloc (.cells #[.int .i64 k.s, .int .i64 k.p, .bool k.t, .int .i64 k.a] 59)) #[.int .i64 k.s, .int .i64 k.p] 24
        rw [World.size_alloc] at hnew
        have HC := Lib.hid (HR.out.2.trans (Chg.of_below hA2))
        clear hA1 hA2 HR
        obtain ⟨i0, hi0, hz0, hz1, hz2⟩ := info_parts (show (Try.prog.info? 24).map (fun i => (i.zero, i.size, i.bytes)) = some (some (.agg #[.int .i64 0, .int .i64 0]), 2, 16) by kernel_rfl)
        go_wp2_with (at_builtin; refine wpList_append_any _ rfl (.tmp 18) (.tmp 21) 32 rfl 24 i0 (.agg #[.int .i64 0, .int .i64 0]) 2 16 Try.underlying32 hi0 hz0 hz1 hz2 rfl (by decide) (.slice ao2 i cap2) i (sc l) rfl hown0 (some ⟨_, 0, none⟩) 1 1 (sc [k.key]) rfl (fun h => by cases h) rfl (fun a ha => by cases ha; rw [sc_one]; exact hnew) (sc_onecell _) (by unfold maxLen; omega) (by omega) ?_; intro v' w3 hown hgr)
        refine ⟨⟨i + 1, l ++ [k.key], hlt, by simp, by rw [take_succ' ks i k hk, List.map_append, ← hl]; rfl, Lib.hid ⟨?_, HC.out.trans hgr⟩⟩, by simp [intOf]; omega⟩
        rw [sc_append]
        exact hown
    · have hi2 : i = ks.length := by omega
      subst hi2
      rw [List.take_length] at hl
      go_wp2_with fail
      refine bodyPost_ret (results_tmp rfl _ _ _) rfl ⟨u3, rfl, ?_, HR.out.2⟩
      rw [← hl]
      have := HR.out.1
      unfold Told
      rw [hl, List.length_map]
      rw [hl] at this
      exact this
theorem Told.lt {w : World} {v : Value} {l : List S} (h : Told w v l) : ∀ b, b ∈ vblk v → b < w.heap.size := Sq.lt h
theorem Told.below {w w' : World} {v : Value} {l : List S} (h : Told w v l) (hb : Below w.heap.size w w') : Told w' v l := Sq.below h hb
theorem Told.chg {w w' : World} {v : Value} {l : List S} {F F' : List Nat} (h : Told w v l) (hc : Chg F F' w w') (hs : Sep (vblk v) F) : Told w' v l := Sq.chg h hc hs
theorem Told.read {w : World} {v : Value} {l : List S} (h : Told w v l) (hl : l ≠ []) : ∃ b cap, v = .slice (some ⟨b, 0, none⟩) l.length cap ∧ b < w.heap.size ∧ ∀ i k, l[i]? = some k → w.cell? ⟨b, i * 2, none⟩ = some (.int .i64 k.s) ∧ w.cell? ⟨b, i * 2 + 1, none⟩ = some (.int .i64 k.p) := by
  rcases Sq.cases h with ⟨_, h0⟩ | ⟨b, cap, rfl, _, _, hb, hcell, _⟩
  · exact (hl (List.eq_nil_of_length_eq_zero h0)).elim
  · exact ⟨b, cap, rfl, hb, fun i k hk => ⟨hcell _ _ (sc_get l i k hk).1, hcell _ _ (sc_get l i k hk).2⟩⟩
set_option maxRecDepth 100000 in
set_option maxHeartbeats 4000000 in
theorem same_any (v1 v2 : Value) (l1 l2 : List S) (w : World) (h1 : Told w v1 l1) (h2 : Told w v2 l2) (hm : l1.length ≤ 1000) :
    Calls Try.prog 20 #[v1, v2] w fun e w' => e = .returned (.bool (decide (l1 = l2))) ∧ Below w.heap.size w w' := by
  obtain ⟨ao1, cap1, rfl, _, _⟩ := Sq.slice h1
  obtain ⟨ao2, cap2, rfl, _, _⟩ := Sq.slice h2
  by_cases hl : l1.length = l2.length
  · go_enter Try.func20, Try.ntmps20
    have hl2 : (((l1.length : Nat) : Int) != ((l2.length : Nat) : Int)) = false := by rw [bne_eq_false_iff_eq]; omega
    go_wp2_with fail
    go_loopw [5] (fun s wr => ∃ i : Nat, i ≤ l1.length ∧ s = .int .i64 (i : Nat) ∧ (∀ j, j < i → l1[j]? = l2[j]?) ∧ Below w.heap.size w wr) (fun s _ => l1.length - (intOf s).toNat)
    case atStart => exact ⟨0, Nat.zero_le _, rfl, fun j hj => by omega, Below.refl _ _⟩
    case round =>
      obtain ⟨i, hi, rfl, hsame, hbr⟩ := hrel
      by_cases hlt : i < l1.length
      · obtain ⟨b, c, hv, hb, hc⟩ := h1.read (by intro e; rw [e] at hlt; simp at hlt)
        cases hv
        obtain ⟨b2, c2, hv, hb2, hc2⟩ := h2.read (fun e => by have h0 : l2.length = 0 := (by rw [e]; rfl); omega)
        cases hv
        have hk := List.getElem?_eq_getElem hlt
        generalize l1[i] = k at hk
        have hk2 := List.getElem?_eq_getElem (show i < l2.length by omega)
        generalize l2[i] = k2 at hk2
        have e0 := cell_keep hbr (hc i k hk).1
        have e1 := cell_keep hbr (hc i k hk).2
        have f0 := cell_keep hbr (hc2 i k2 hk2).1
        have f1 := cell_keep hbr (hc2 i k2 hk2).2
        clear hc hc2
        have hlt2 : ((i : Nat) : Int) < ((l2.length : Nat) : Int) := by omega
        have hlt1 : ((i : Nat) : Int) < ((l1.length : Nat) : Int) := by omega
        have HS := Lib.hid hsame
        have HB := Lib.hid hbr
        clear hsame hbr
        cases k
        cases k2
        rename_i ks kp ks2 kp2
        dsimp only at e0 e1 f0 f1
        by_cases hs : ks = ks2
        · subst hs
          by_cases hp : kp = kp2
          · subst hp
            go_wp2_with fail
            go_quiet (fail)
            go_wp2_with fail
            refine ⟨⟨i + 1, hlt, by simp, fun j hj => ?_, below_drewN HB.out _⟩, by simp [intOf]; omega⟩
            rcases Nat.lt_succ_iff_lt_or_eq.1 hj with h | rfl
            · exact HS.out j h
            · rw [hk, hk2]
          · go_wp2_with fail
            go_quiet (fail)
            go_wp2_with fail
            have hne : l1 ≠ l2 := fun e => by
              rw [e, hk2] at hk
              simp at hk
              exact hp hk.symm
            refine bodyPost_ret (results_tmp rfl _ _ _) rfl ⟨by rw [decide_eq_false hne]; rfl, below_drewN HB.out _⟩
        · go_wp2_with fail
          go_quiet (fail)
          go_wp2_with fail
          have hne : l1 ≠ l2 := fun e => by
            rw [e, hk2] at hk
            simp at hk
            exact hs hk.1.symm
          refine bodyPost_ret (results_tmp rfl _ _ _) rfl ⟨by rw [decide_eq_false hne]; rfl, below_drewN HB.out _⟩
      · go_wp2_with fail
        have he : l1 = l2 := by
          apply List.ext_getElem?
          intro j
          by_cases hj : j < l1.length
          · exact hsame j (by omega)
          · rw [List.getElem?_eq_none (by omega), List.getElem?_eq_none (by omega)]
        exact bodyPost_ret (results_tmp rfl _ _ _) rfl ⟨by rw [decide_eq_true he]; rfl, hbr⟩
  · go_enter Try.func20, Try.ntmps20
    have hl2 : (((l1.length : Nat) : Int) != ((l2.length : Nat) : Int)) = true := by rw [bne_iff_ne]; omega
    go_wp2_with fail
    exact bodyPost_ret (results_tmp rfl _ _ _) rfl ⟨by rw [decide_eq_false (fun e => hl (by rw [e]))]; rfl, Below.refl _ _⟩

end Go.Proofs.Ytehbonhdhblpgaa
