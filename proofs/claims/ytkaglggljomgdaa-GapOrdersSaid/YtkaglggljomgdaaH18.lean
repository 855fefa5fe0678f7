/- Parts of the proofs of layer 18 (gap): contracts of its functions, and the laws' walks. -/
import Derived.Test.YtkaglggljomgdaaProg
import Derived.WalkKit
import Derived.WalkSpells
import Derived.WalkLawsBesides
import Derived.BigQuiet
import Derived.Deep.QuietTactic
import Derived.Lib.Hide
import Derived.Deep.RegionHeld3
import Derived.Deep.DeepCutAuto
import Derived.KernelRfl
import Derived.Deep.OwnRows
import Derived.Laws.CopyOwn
import Derived.Laws.CopyRow
import Derived.StillTailTactics
import Derived.Deep.RegionLaw
import Derived.Test.YtkaglggljomgdaaH17
import Derived.OwnWalk
namespace Go.Proofs.Ytkaglggljomgdaa
open Go.RowKit
set_option linter.unusedVariables false
set_option linter.unusedSimpArgs false

theorem grow {w0 W w' : World} {v v' : Value} {D : List (Int × Int)} {e : Int × Int} {ob : Obj} (hown : Sq w' 44 2 v' (D.length + 1) (rc D ++ rc [e])) (hgr : Chg (vblk v) (vblk v') (W.alloc ob) w') (hc : Chg [] (vblk v) w0 W) :
    Told w' v' (D ++ [e]) ∧ Chg [] (vblk v') w0 w' := ⟨Told.one_more hown, (hc.trans (Chg.of_below ((Below.refl _ _).alloc (Nat.le_refl _) _))).trans hgr⟩
/-- The reference's tree: its struct in block g, its stretches in a row of their own. -/
def Rt (w : World) (g : Nat) (F : List Nat) (L : List (Int × Int)) : Prop := ∃ v, w.heap[g]? = some (.cells #[v] 41 (0, 0)) ∧ Told w v L ∧ F = g :: vblk v ∧ g ∉ vblk v
theorem Rt.lt {w : World} {g : Nat} {F : List Nat} {L : List (Int × Int)} (h : Rt w g F L) : ∀ b, b ∈ F → b < w.heap.size := by
  obtain ⟨v, hg, ht, rfl, h1⟩ := h
  intro b hb
  rcases List.mem_cons.1 hb with rfl | hb
  · exact lt_of_block hg
  · exact ht.lt b hb
theorem Rt.chg {w w' : World} {g : Nat} {F G G' : List Nat} {L : List (Int × Int)} (h : Rt w g F L) (hc : Chg G G' w w') (hs : Sep F G) : Rt w' g F L := by
  have hl := h.lt
  obtain ⟨v, hg, ht, rfl, h1⟩ := h
  exact ⟨v, (hc.block (hl g (by simp)) (hs g (by simp))).trans hg, ht.chg hc fun b hb => hs b (by simp [hb]), rfl, h1⟩
theorem Rt.below {w w' : World} {g : Nat} {F : List Nat} {L : List (Int × Int)} (h : Rt w g F L) (hb : Below w.heap.size w w') : Rt w' g F L := h.chg (Chg.of_below (F := []) hb) fun _ _ hm => by simp at hm
theorem Rt.drewN {w : World} {g : Nat} {F : List Nat} {L : List (Int × Int)} (h : Rt w g F L) (k : Nat) : Rt (w.drewN k) g F L := h
theorem Rt.cells {w : World} {g : Nat} {F : List Nat} {L : List (Int × Int)} (h : Rt w g F L) : ∃ ao cap, w.cell? ⟨g, 0, none⟩ = some (.slice ao L.length cap) ∧ Told w (.slice ao L.length cap) L := by
  obtain ⟨v, hg, ht, rfl, h1⟩ := h
  obtain ⟨ao, cap, rfl, _, _⟩ := ht.slice
  exact ⟨ao, cap, cell_of_one hg, ht⟩
theorem Rt.froz {w : World} {g : Nat} {F : List Nat} {L : List (Int × Int)} (h : Rt w g F L) : w.frozen? ⟨g, 0, none⟩ = false := by
  obtain ⟨v, hg, ht, rfl, h1⟩ := h
  exact free_of_one hg
/-- The tree takes a new row. -/
theorem Rt.set {w w3 : World} {g : Nat} {F : List Nat} {L L' : List (Int × Int)} {v' : Value} (h : Rt w g F L) (hc : Chg [] (vblk v') w w3) (ht : Told w3 v' L') :
    Rt (w3.setCell ⟨g, 0, none⟩ v') g (g :: vblk v') L' ∧ Chg F (g :: vblk v') w (w3.setCell ⟨g, 0, none⟩ v') ∧ w3.cell? ⟨g, 0, none⟩ = w.cell? ⟨g, 0, none⟩ ∧ w3.frozen? ⟨g, 0, none⟩ = false := by
  obtain ⟨v, hg, h0, rfl, h1⟩ := h
  have gl := lt_of_block hg
  have r3 := (hc.block gl (by simp)).trans hg
  have n3 := hc.out (by simp) gl
  refine ⟨⟨v', (heap_setCell_same w3 g 0 _ 41 _ r3).trans rfl, ht.set_other n3 _ _, rfl, n3⟩, ?_, ?_, free_of_one r3⟩
  · exact (hc.frame (F := g :: vblk v) (F' := g :: vblk v') (by grind) (by grind)).setCell _ _ _ (by simp)
  · rw [cell_of_one r3, cell_of_one hg]
theorem rwrong_any (x y : Int) (w : World) : Calls Try.prog 47 #[.int .i64 x, .int .i64 y] w fun e w' => e = .returned (.int .i64 (wrg x y)) ∧ w = w' := by
  unfold wrg
  by_cases h1 : x < 1
  · go_enter Try.func47, Try.ntmps47
    go_wp2
    go_ret
    exact ⟨by simp [h1], rfl⟩
  · by_cases h2 : 4096 < y
    · go_enter Try.func47, Try.ntmps47
      go_wp2
      go_ret
      exact ⟨by simp [h1, h2], rfl⟩
    · by_cases h3 : y ≤ x
      · go_enter Try.func47, Try.ntmps47
        go_wp2
        go_ret
        exact ⟨by simp [h1, h2, h3], rfl⟩
      · go_enter Try.func47, Try.ntmps47
        go_wp2
        go_ret
        exact ⟨by simp [h1, h2, h3], rfl⟩
theorem drop_cons' {α : Type} {l : List α} {i : Nat} {a : α} (h : l[i]? = some a) : l.drop i = a :: l.drop (i + 1) := by
  obtain ⟨hi, rfl⟩ := List.getElem?_eq_some_iff.1 h
  exact List.drop_eq_getElem_cons hi
set_option maxRecDepth 100000 in
set_option maxHeartbeats 8000000 in
theorem RPut_any (x y : Int) (g : Nat) (F : List Nat) (L : List (Int × Int)) (w : World) (h : Rt w g F L) (hm : L.length ≤ 5000) :
    Calls Try.prog 40 #[.pointer (some ⟨g, 0, none⟩), .int .i64 x, .int .i64 y] w fun e w' => e = .returned (.int .i64 (putE x y L)) ∧ ∃ F', Chg F F' w w' ∧ Rt w' g F' (putL x y L) := by
  have HW := Lib.hid (rwrong_any x y w)
  have HM := Lib.hid h
  by_cases hw : wrg x y = 0
  · rw [hw] at HW
    have HE : RowKit.Hid (putE x y L = if (fm x y L).isSome then 7 else 0) := Lib.hid (by unfold putE; rw [if_neg (by simp [hw])])
    obtain ⟨al, cl, c0, hT⟩ := h.cells
    have HT := Lib.hid hT
    clear h hT hw
    obtain ⟨i0, hi0, hz0, hz1, hz2⟩ := info_parts (show (Try.prog.info? 44).map (fun i => (i.zero, i.size, i.bytes)) = some (some (.agg #[.int .i64 0, .int .i64 0]), 2, 16) by kernel_rfl)
    go_enter Try.func40, Try.ntmps40
    go_wp2_with fail
    refine HW.out.mono ?_
    rintro ex w1 ⟨rfl, rfl⟩
    go_wp2_with fail
    clear c0
    go_loopw [8, 9, 10] (fun o d s wr => ∃ (i : Nat) (lo : List (Int × Int)) (db : Bool), i ≤ L.length ∧ s = .int .i64 (i : Nat) ∧ d = .bool db ∧ lo.length ≤ i + 1 ∧ RowKit.Hid ((db = false → lo.length ≤ i) ∧ lo ++ (if db = true then L.drop i else ins x y (L.drop i)) = ins x y L ∧ (∀ e ∈ L.take i, ¬ Mt x y e) ∧ Told wr o lo ∧ Chg [] (vblk o) w wr)) (fun _ _ s _ => L.length - (intOf s).toNat)
    case atStart => exact ⟨0, [], false, Nat.zero_le _, rfl, rfl, Nat.zero_le _, Lib.hid ⟨fun _ => Nat.zero_le _, rfl, (fun e he => by simp at he), Sq.nil _ _ _, by rw [vblk_nil]; exact Chg.refl _ _⟩⟩
    case round =>
      obtain ⟨i, lo, db, hi, rfl, rfl, hlo, HL⟩ := hrel
      have hbr : Below w.heap.size w wr := HL.out.2.2.2.2.below (fun b hb => by simp at hb) (Nat.le_refl _)
      obtain ⟨al', cl', c0w, hT'⟩ := HM.out.cells
      have c0 := cell_keep hbr c0w
      have HMr := Lib.hid (HM.out.below hbr)
      by_cases hil : i < L.length
      · obtain ⟨bl, cl2, hv, hbl, hcell⟩ := (hT'.below hbr).read (ne_nil_of_lt hil)
        cases hv
        have hk := List.getElem?_eq_getElem hil
        generalize L[i] = k at hk
        obtain ⟨k1, k2⟩ := k
        obtain ⟨e0, e1⟩ := hcell i _ hk
        have hiI : ((i : Nat) : Int) < ((L.length : Nat) : Int) := by omega
        obtain ⟨ao, cap, rfl, _, _⟩ := HL.out.2.2.2.1.slice
        have HDC := Lib.hid (And.intro (drop_cons' hk) (take_succ' L i _ hk))
        have HMK := Lib.hid (List.mem_of_getElem? hk)
        dsimp only at e0 e1
        have hbx : Below wr.heap.size wr (wr.alloc (.cells #[.int .i64 k1, .int .i64 k2] 44)) := (Below.refl _ _).alloc (Nat.le_refl _) _
        have HX := Lib.hid (heap_alloc_new wr (.cells #[.int .i64 k1, .int .i64 k2] 44))
        have HLX := Lib.hid (And.intro (HL.out.2.2.2.1.below hbx) (HL.out.2.2.2.2.trans (Chg.of_below hbx)))
        have HX2 := Lib.hid (show wr.heap.size ∉ vblk (.slice ao lo.length cap) ∧ wr.heap.size < (wr.alloc (.cells #[.int .i64 k1, .int .i64 k2] 44)).heap.size from ⟨fun hm => by have := HL.out.2.2.2.1.lt _ hm; omega, by simp⟩)
        clear hcell hk hbl hbr c0w hT'
        go_upto_region 10 with fail
        clear e0 e1 c0 hbx
        generalize wr.alloc (.cells #[.int .i64 k1, .int .i64 k2] 44) = w5 at *
        generalize wr.heap.size = X at *
        have x0 : w5.cell? ⟨X, 0, none⟩ = some (.int .i64 k1) := cell_of_row w5 X 0 _ 44 _ HX.out
        have x1 : w5.cell? ⟨X, 1, none⟩ = some (.int .i64 k2) := cell_of_row w5 X 1 _ 44 _ HX.out
        by_cases hmt : Mt x y (k1, k2)
        · have HE7 := Lib.hid (show putE x y L = 7 ∧ putL x y L = L from by
            have : (fm x y L).isSome = true := by
              cases hf : fm x y L with
              | none => exact absurd hmt (fm_none_iff.1 hf _ HMK.out)
              | some e => rfl
            have e7 : putE x y L = 7 := by rw [HE.out, this]; rfl
            exact ⟨e7, by unfold putL; rw [e7]; rfl⟩)
          have HB5 := Lib.hid (show Below w.heap.size w w5 from HLX.out.2.below (fun b hb => by simp at hb) (Nat.le_refl _))
          obtain ⟨m1, m2⟩ := id hmt
          dsimp only at m1 m2
          clear hmt
          go_wp2_with fail
          go_ret
          rw [HE7.out.1, HE7.out.2]
          exact ⟨rfl, F, Chg.of_below HB5.out, HM.out.below HB5.out⟩
        · have HNM := Lib.hid hmt
          clear hmt
          by_cases m1 : k1 < y
          · have m2 : ¬ x < k2 := fun m2 => HNM.out ⟨m1, m2⟩
            cases db with
            | true =>
              have hA : Below w5.heap.size w5 (w5.alloc (.cells #[.int .i64 k1, .int .i64 k2] 44)) := (Below.refl _ _).alloc (Nat.le_refl _) _
              have hown := HLX.out.1.below hA
              have hnew := news_alloc w5 #[.int .i64 k1, .int .i64 k2] 44
              go_wp2_with (at_builtin; refine wpList_append_any _ rfl (.tmp 58) (.tmp 60) 39 rfl 44 i0 (.agg #[.int .i64 0, .int .i64 0]) 2 16 Try.underlying39 hi0 hz0 hz1 hz2 rfl (by decide) (.slice ao (lo).length cap) (lo).length (rc (lo)) rfl hown (some ⟨w5.heap.size, 0, none⟩) 1 1 (rc [(k1, k2)]) rfl (fun h => by cases h) rfl (fun a ha => by cases ha; rw [rc_one]; exact hnew) (rc_onecell _) (by unfold maxLen; omega) (by omega) ?_; intro v7 w7 hown7 hgr7; obtain ⟨ao7, cap7, rfl, _, _⟩ := Sq.slice hown7)
              have HG := Lib.hid (grow hown7 hgr7 HLX.out.2)
              exact ⟨⟨i + 1, lo ++ [(k1, k2)], true, hil, by simp, rfl, by simp; omega, Lib.hid ⟨(fun h => by cases h), by have := HL.out.2.1; rw [if_pos rfl, HDC.out.1] at this; rw [if_pos rfl, List.append_assoc]; exact this, (fun e he => by rw [HDC.out.2] at he; rcases List.mem_append.1 he with he | he; exact HL.out.2.2.1 e he; simp at he; subst he; exact HNM.out), HG.out.1, HG.out.2⟩⟩, by simp [intOf]; omega⟩
            | false =>
              by_cases hxk : x < k1
              · skip
                have hA : Below w5.heap.size w5 (w5.alloc (.cells #[.int .i64 x, .int .i64 y] 44)) := (Below.refl _ _).alloc (Nat.le_refl _) _
                have hown := HLX.out.1.below hA
                have hnew := news_alloc w5 #[.int .i64 x, .int .i64 y] 44
                go_upto_region 14 with (at_builtin; refine wpList_append_any _ rfl (.tmp 52) (.tmp 56) 39 rfl 44 i0 (.agg #[.int .i64 0, .int .i64 0]) 2 16 Try.underlying39 hi0 hz0 hz1 hz2 rfl (by decide) (.slice ao (lo).length cap) (lo).length (rc (lo)) rfl hown (some ⟨w5.heap.size, 0, none⟩) 1 1 (rc [(x, y)]) rfl (fun h => by cases h) rfl (fun a ha => by cases ha; rw [rc_one]; exact hnew) (rc_onecell _) (by unfold maxLen; omega) (by omega) ?_; intro v6 w6 hown6 hgr6; obtain ⟨ao6, cap6, rfl, _, _⟩ := Sq.slice hown6)
                have HG6 := Lib.hid (grow hown6 hgr6 HLX.out.2)
                have hX6 := (hgr6.block (by have := HX2.out.2; simp; omega) HX2.out.1).trans (((Below.refl w5.heap.size w5).alloc (Nat.le_refl _) _).block _ HX2.out.2 |>.trans HX.out)
                clear x0 x1 hA hown hnew hown6 hgr6
                obtain ⟨D2, hD2⟩ : ∃ D2, lo ++ [(x, y)] = D2 := ⟨_, rfl⟩
                have hDl : lo.length + 1 = D2.length := by rw [← hD2]; simp
                rw [hD2, hDl] at HG6
                rw [hDl]
                have hD2l : D2.length ≤ i + 1 := by have := HL.out.1 rfl; omega
                have HD2 := Lib.hid hD2
                clear hD2 hDl
                have x0 : w6.cell? ⟨X, 0, none⟩ = some (.int .i64 k1) := cell_of_row w6 X 0 _ 44 _ hX6
                have x1 : w6.cell? ⟨X, 1, none⟩ = some (.int .i64 k2) := cell_of_row w6 X 1 _ 44 _ hX6
                clear hX6
                have hA : Below w6.heap.size w6 (w6.alloc (.cells #[.int .i64 k1, .int .i64 k2] 44)) := (Below.refl _ _).alloc (Nat.le_refl _) _
                have hown := HG6.out.1.below hA
                have hnew := news_alloc w6 #[.int .i64 k1, .int .i64 k2] 44
                go_wp2_with (at_builtin; refine wpList_append_any _ rfl (.tmp 58) (.tmp 60) 39 rfl 44 i0 (.agg #[.int .i64 0, .int .i64 0]) 2 16 Try.underlying39 hi0 hz0 hz1 hz2 rfl (by decide) (.slice ao6 (D2).length cap6) (D2).length (rc (D2)) rfl hown (some ⟨w6.heap.size, 0, none⟩) 1 1 (rc [(k1, k2)]) rfl (fun h => by cases h) rfl (fun a ha => by cases ha; rw [rc_one]; exact hnew) (rc_onecell _) (by unfold maxLen; omega) (by omega) ?_; intro v7 w7 hown7 hgr7; obtain ⟨ao7, cap7, rfl, _, _⟩ := Sq.slice hown7)
                have HG := Lib.hid (grow hown7 hgr7 HG6.out.2)
                exact ⟨⟨i + 1, D2 ++ [(k1, k2)], true, hil, by simp, rfl, by simp; omega, Lib.hid ⟨(fun h => by cases h), by have := HL.out.2.1; rw [if_neg (by simp), HDC.out.1, ins, if_pos hxk] at this; rw [if_pos rfl, ← HD2.out, ← this]; simp, (fun e he => by rw [HDC.out.2] at he; rcases List.mem_append.1 he with he | he; exact HL.out.2.2.1 e he; simp at he; subst he; exact HNM.out), HG.out.1, HG.out.2⟩⟩, by simp [intOf]; omega⟩
              · skip
                have hA : Below w5.heap.size w5 (w5.alloc (.cells #[.int .i64 k1, .int .i64 k2] 44)) := (Below.refl _ _).alloc (Nat.le_refl _) _
                have hown := HLX.out.1.below hA
                have hnew := news_alloc w5 #[.int .i64 k1, .int .i64 k2] 44
                go_wp2_with (at_builtin; refine wpList_append_any _ rfl (.tmp 58) (.tmp 60) 39 rfl 44 i0 (.agg #[.int .i64 0, .int .i64 0]) 2 16 Try.underlying39 hi0 hz0 hz1 hz2 rfl (by decide) (.slice ao (lo).length cap) (lo).length (rc (lo)) rfl hown (some ⟨w5.heap.size, 0, none⟩) 1 1 (rc [(k1, k2)]) rfl (fun h => by cases h) rfl (fun a ha => by cases ha; rw [rc_one]; exact hnew) (rc_onecell _) (by unfold maxLen; omega) (by omega) ?_; intro v7 w7 hown7 hgr7; obtain ⟨ao7, cap7, rfl, _, _⟩ := Sq.slice hown7)
                have HG := Lib.hid (grow hown7 hgr7 HLX.out.2)
                exact ⟨⟨i + 1, lo ++ [(k1, k2)], false, hil, by simp, rfl, by simp; omega, Lib.hid ⟨(fun _ => by have := HL.out.1 rfl; simp; omega), by have := HL.out.2.1; rw [if_neg (by simp), HDC.out.1, ins, if_neg hxk] at this; rw [if_neg (by simp), List.append_assoc]; exact this, (fun e he => by rw [HDC.out.2] at he; rcases List.mem_append.1 he with he | he; exact HL.out.2.2.1 e he; simp at he; subst he; exact HNM.out), HG.out.1, HG.out.2⟩⟩, by simp [intOf]; omega⟩
          · skip
            cases db with
            | true =>
              have hA : Below w5.heap.size w5 (w5.alloc (.cells #[.int .i64 k1, .int .i64 k2] 44)) := (Below.refl _ _).alloc (Nat.le_refl _) _
              have hown := HLX.out.1.below hA
              have hnew := news_alloc w5 #[.int .i64 k1, .int .i64 k2] 44
              go_wp2_with (at_builtin; refine wpList_append_any _ rfl (.tmp 58) (.tmp 60) 39 rfl 44 i0 (.agg #[.int .i64 0, .int .i64 0]) 2 16 Try.underlying39 hi0 hz0 hz1 hz2 rfl (by decide) (.slice ao (lo).length cap) (lo).length (rc (lo)) rfl hown (some ⟨w5.heap.size, 0, none⟩) 1 1 (rc [(k1, k2)]) rfl (fun h => by cases h) rfl (fun a ha => by cases ha; rw [rc_one]; exact hnew) (rc_onecell _) (by unfold maxLen; omega) (by omega) ?_; intro v7 w7 hown7 hgr7; obtain ⟨ao7, cap7, rfl, _, _⟩ := Sq.slice hown7)
              have HG := Lib.hid (grow hown7 hgr7 HLX.out.2)
              exact ⟨⟨i + 1, lo ++ [(k1, k2)], true, hil, by simp, rfl, by simp; omega, Lib.hid ⟨(fun h => by cases h), by have := HL.out.2.1; rw [if_pos rfl, HDC.out.1] at this; rw [if_pos rfl, List.append_assoc]; exact this, (fun e he => by rw [HDC.out.2] at he; rcases List.mem_append.1 he with he | he; exact HL.out.2.2.1 e he; simp at he; subst he; exact HNM.out), HG.out.1, HG.out.2⟩⟩, by simp [intOf]; omega⟩
            | false =>
              by_cases hxk : x < k1
              · skip
                have hA : Below w5.heap.size w5 (w5.alloc (.cells #[.int .i64 x, .int .i64 y] 44)) := (Below.refl _ _).alloc (Nat.le_refl _) _
                have hown := HLX.out.1.below hA
                have hnew := news_alloc w5 #[.int .i64 x, .int .i64 y] 44
                go_upto_region 14 with (at_builtin; refine wpList_append_any _ rfl (.tmp 52) (.tmp 56) 39 rfl 44 i0 (.agg #[.int .i64 0, .int .i64 0]) 2 16 Try.underlying39 hi0 hz0 hz1 hz2 rfl (by decide) (.slice ao (lo).length cap) (lo).length (rc (lo)) rfl hown (some ⟨w5.heap.size, 0, none⟩) 1 1 (rc [(x, y)]) rfl (fun h => by cases h) rfl (fun a ha => by cases ha; rw [rc_one]; exact hnew) (rc_onecell _) (by unfold maxLen; omega) (by omega) ?_; intro v6 w6 hown6 hgr6; obtain ⟨ao6, cap6, rfl, _, _⟩ := Sq.slice hown6)
                have HG6 := Lib.hid (grow hown6 hgr6 HLX.out.2)
                have hX6 := (hgr6.block (by have := HX2.out.2; simp; omega) HX2.out.1).trans (((Below.refl w5.heap.size w5).alloc (Nat.le_refl _) _).block _ HX2.out.2 |>.trans HX.out)
                clear x0 x1 hA hown hnew hown6 hgr6
                obtain ⟨D2, hD2⟩ : ∃ D2, lo ++ [(x, y)] = D2 := ⟨_, rfl⟩
                have hDl : lo.length + 1 = D2.length := by rw [← hD2]; simp
                rw [hD2, hDl] at HG6
                rw [hDl]
                have hD2l : D2.length ≤ i + 1 := by have := HL.out.1 rfl; omega
                have HD2 := Lib.hid hD2
                clear hD2 hDl
                have x0 : w6.cell? ⟨X, 0, none⟩ = some (.int .i64 k1) := cell_of_row w6 X 0 _ 44 _ hX6
                have x1 : w6.cell? ⟨X, 1, none⟩ = some (.int .i64 k2) := cell_of_row w6 X 1 _ 44 _ hX6
                clear hX6
                have hA : Below w6.heap.size w6 (w6.alloc (.cells #[.int .i64 k1, .int .i64 k2] 44)) := (Below.refl _ _).alloc (Nat.le_refl _) _
                have hown := HG6.out.1.below hA
                have hnew := news_alloc w6 #[.int .i64 k1, .int .i64 k2] 44
                go_wp2_with (at_builtin; refine wpList_append_any _ rfl (.tmp 58) (.tmp 60) 39 rfl 44 i0 (.agg #[.int .i64 0, .int .i64 0]) 2 16 Try.underlying39 hi0 hz0 hz1 hz2 rfl (by decide) (.slice ao6 (D2).length cap6) (D2).length (rc (D2)) rfl hown (some ⟨w6.heap.size, 0, none⟩) 1 1 (rc [(k1, k2)]) rfl (fun h => by cases h) rfl (fun a ha => by cases ha; rw [rc_one]; exact hnew) (rc_onecell _) (by unfold maxLen; omega) (by omega) ?_; intro v7 w7 hown7 hgr7; obtain ⟨ao7, cap7, rfl, _, _⟩ := Sq.slice hown7)
                have HG := Lib.hid (grow hown7 hgr7 HG6.out.2)
                exact ⟨⟨i + 1, D2 ++ [(k1, k2)], true, hil, by simp, rfl, by simp; omega, Lib.hid ⟨(fun h => by cases h), by have := HL.out.2.1; rw [if_neg (by simp), HDC.out.1, ins, if_pos hxk] at this; rw [if_pos rfl, ← HD2.out, ← this]; simp, (fun e he => by rw [HDC.out.2] at he; rcases List.mem_append.1 he with he | he; exact HL.out.2.2.1 e he; simp at he; subst he; exact HNM.out), HG.out.1, HG.out.2⟩⟩, by simp [intOf]; omega⟩
              · skip
                have hA : Below w5.heap.size w5 (w5.alloc (.cells #[.int .i64 k1, .int .i64 k2] 44)) := (Below.refl _ _).alloc (Nat.le_refl _) _
                have hown := HLX.out.1.below hA
                have hnew := news_alloc w5 #[.int .i64 k1, .int .i64 k2] 44
                go_wp2_with (at_builtin; refine wpList_append_any _ rfl (.tmp 58) (.tmp 60) 39 rfl 44 i0 (.agg #[.int .i64 0, .int .i64 0]) 2 16 Try.underlying39 hi0 hz0 hz1 hz2 rfl (by decide) (.slice ao (lo).length cap) (lo).length (rc (lo)) rfl hown (some ⟨w5.heap.size, 0, none⟩) 1 1 (rc [(k1, k2)]) rfl (fun h => by cases h) rfl (fun a ha => by cases ha; rw [rc_one]; exact hnew) (rc_onecell _) (by unfold maxLen; omega) (by omega) ?_; intro v7 w7 hown7 hgr7; obtain ⟨ao7, cap7, rfl, _, _⟩ := Sq.slice hown7)
                have HG := Lib.hid (grow hown7 hgr7 HLX.out.2)
                exact ⟨⟨i + 1, lo ++ [(k1, k2)], false, hil, by simp, rfl, by simp; omega, Lib.hid ⟨(fun _ => by have := HL.out.1 rfl; simp; omega), by have := HL.out.2.1; rw [if_neg (by simp), HDC.out.1, ins, if_neg hxk] at this; rw [if_neg (by simp), List.append_assoc]; exact this, (fun e he => by rw [HDC.out.2] at he; rcases List.mem_append.1 he with he | he; exact HL.out.2.2.1 e he; simp at he; subst he; exact HNM.out), HG.out.1, HG.out.2⟩⟩, by simp [intOf]; omega⟩
      · have hil2 : i = L.length := by omega
        have HN := Lib.hid (show fm x y L = none from fm_none (by have := HL.out.2.2.1; rw [hil2, List.take_length] at this; exact this))
        have HE0 := Lib.hid (show putE x y L = 0 ∧ putL x y L = ins x y L from by
          have e0 : putE x y L = 0 := by rw [HE.out, HN.out]; rfl
          exact ⟨e0, if_pos e0⟩)
        have hrel1 := HL.out.2.1
        rw [hil2, List.drop_length] at hrel1
        obtain ⟨ao, cap, rfl, _, _⟩ := HL.out.2.2.2.1.slice
        cases db with
        | true =>
          rw [if_pos rfl, List.append_nil] at hrel1
          obtain ⟨t1, t2, t3, t4⟩ := HM.out.set HL.out.2.2.2.2 HL.out.2.2.2.1
          rw [c0w] at t3
          have HS := Lib.hid (And.intro t1 t2)
          have HR1 := Lib.hid hrel1
          clear t1 t2 hrel1 c0 c0w hbr hT'
          go_wp2_with fail
          go_ret
          rw [HE0.out.1, HE0.out.2]
          exact ⟨rfl, _, HS.out.2, by rw [← HR1.out]; exact HS.out.1⟩
        | false =>
          rw [if_neg (by simp), ins] at hrel1
          have hA : Below wr.heap.size wr (wr.alloc (.cells #[.int .i64 x, .int .i64 y] 44)) := (Below.refl _ _).alloc (Nat.le_refl _) _
          have hown := HL.out.2.2.2.1.below hA
          have hnew := news_alloc wr #[.int .i64 x, .int .i64 y] 44
          have HR1 := Lib.hid hrel1
          have HC0 := Lib.hid c0w
          clear hrel1 c0w hbr hT'
          go_upto_region 18 with (at_builtin; refine wpList_append_any _ rfl (.tmp 64) (.tmp 68) 39 rfl 44 i0 (.agg #[.int .i64 0, .int .i64 0]) 2 16 Try.underlying39 hi0 hz0 hz1 hz2 rfl (by decide) (.slice ao lo.length cap) lo.length (rc lo) rfl hown (some ⟨wr.heap.size, 0, none⟩) 1 1 (rc [(x, y)]) rfl (fun h => by cases h) rfl (fun a ha => by cases ha; rw [rc_one]; exact hnew) (rc_onecell _) (by unfold maxLen; omega) (by omega) ?_; intro v6 w6 hown6 hgr6; obtain ⟨ao6, cap6, rfl, _, _⟩ := Sq.slice hown6)
          obtain ⟨g1, g2⟩ := grow hown6 hgr6 HL.out.2.2.2.2
          rw [HR1.out] at g1
          obtain ⟨t1, t2, t3, t4⟩ := HM.out.set g2 g1
          rw [HC0.out] at t3
          have HS := Lib.hid (And.intro t1 t2)
          clear t1 t2 g1 g2 hown6 hgr6 hown hnew hA c0
          go_wp2_with fail
          go_ret
          rw [HE0.out.1, HE0.out.2]
          exact ⟨rfl, _, HS.out.2, HS.out.1⟩
  · have hE : putE x y L = wrg x y := by unfold putE; rw [if_pos hw]
    have HE := Lib.hid (And.intro hE (show putL x y L = L from if_neg (by rw [hE]; exact hw)))
    have hw2 : (wrg x y != 0) = true := by rw [bne_iff_ne]; exact hw
    clear hE h
    generalize wrg x y = q at *
    go_enter Try.func40, Try.ntmps40
    go_wp2_with fail
    refine HW.out.mono ?_
    rintro ex w1 ⟨rfl, rfl⟩
    go_wp2_with fail
    go_ret
    rw [HE.out.1, HE.out.2]
    exact ⟨rfl, _, Chg.refl _ _, HM.out⟩

end Go.Proofs.Ytkaglggljomgdaa
