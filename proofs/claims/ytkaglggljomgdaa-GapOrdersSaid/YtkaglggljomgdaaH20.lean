/- Parts of the proofs of layer 18 (gap): contracts of its functions, and the laws' walks. -/
import Derived.Test.YtkaglggljomgdaaProg
import Derived.WalkKit
import Derived.WalkSpells
import Derived.WalkLawsBesides
import Derived.BigQuiet
import Derived.Deep.QuietTactic
import Derived.Lib.Hide
import Derived.Deep.RegionHeld3
import Derived.Deep.DeepCutAuto
import Derived.KernelRfl
import Derived.Deep.OwnRows
import Derived.Laws.CopyOwn
import Derived.Laws.CopyRow
import Derived.StillTailTactics
import Derived.Deep.RegionLaw
import Derived.Test.YtkaglggljomgdaaH19
import Derived.OwnWalk
namespace Go.Proofs.Ytkaglggljomgdaa
open Go.RowKit
set_option linter.unusedVariables false
set_option linter.unusedSimpArgs false

theorem cuts_one (x y k1 k2 : Int) : cuts x y [(k1, k2)] = if Mt x y (k1, k2) then (if k1 < x then [(k1, x)] else []) ++ (if y < k2 then [(y, k2)] else []) else [(k1, k2)] := by
  simp [cuts, piece]
set_option maxRecDepth 100000 in
set_option maxHeartbeats 8000000 in
theorem RCut_any (x y : Int) (g : Nat) (F : List Nat) (L : List (Int × Int)) (w : World) (h : Rt w g F L) (hm : L.length ≤ 5000) :
    Calls Try.prog 42 #[.pointer (some ⟨g, 0, none⟩), .int .i64 x, .int .i64 y] w fun e w' => e = .returned (.int .i64 (wrg x y)) ∧ ∃ F', Chg F F' w w' ∧ Rt w' g F' (cutL x y L) := by
  have HW := Lib.hid (rwrong_any x y w)
  have HM := Lib.hid h
  by_cases hw : wrg x y = 0
  · have HE := Lib.hid (And.intro hw (show cutL x y L = cuts x y L from if_pos hw))
    rw [hw] at HW
    obtain ⟨al, cl, c0, hT⟩ := h.cells
    clear h hT hw
    obtain ⟨i0, hi0, hz0, hz1, hz2⟩ := info_parts (show (Try.prog.info? 44).map (fun i => (i.zero, i.size, i.bytes)) = some (some (.agg #[.int .i64 0, .int .i64 0]), 2, 16) by kernel_rfl)
    go_enter Try.func42, Try.ntmps42
    go_wp2_with fail
    refine HW.out.mono ?_
    rintro ex w1 ⟨rfl, rfl⟩
    go_wp2_with fail
    clear c0
    go_loopw [8, 9] (fun o s wr => ∃ (i : Nat) (lo : List (Int × Int)), i ≤ L.length ∧ s = .int .i64 (i : Nat) ∧ lo.length ≤ 2 * i ∧ RowKit.Hid (lo = cuts x y (L.take i) ∧ Told wr o lo ∧ Chg [] (vblk o) w wr)) (fun _ s _ => L.length - (intOf s).toNat)
    case atStart => exact ⟨0, [], Nat.zero_le _, rfl, Nat.zero_le _, Lib.hid ⟨rfl, Sq.nil _ _ _, by rw [vblk_nil]; exact Chg.refl _ _⟩⟩
    case round =>
      obtain ⟨i, lo, hi, rfl, hlo, HL⟩ := hrel
      have hbr : Below w.heap.size w wr := HL.out.2.2.below (fun b hb => by simp at hb) (Nat.le_refl _)
      obtain ⟨al', cl', c0w, hT'⟩ := HM.out.cells
      have c0 := cell_keep hbr c0w
      obtain ⟨ao, cap, rfl, _, _⟩ := HL.out.2.1.slice
      by_cases hil : i < L.length
      · obtain ⟨bl, cl2, hv, hbl, hcell⟩ := (hT'.below hbr).read (ne_nil_of_lt hil)
        cases hv
        have hk := List.getElem?_eq_getElem hil
        generalize L[i] = k at hk
        obtain ⟨k1, k2⟩ := k
        obtain ⟨e0, e1⟩ := hcell i _ hk
        have hiI : ((i : Nat) : Int) < ((L.length : Nat) : Int) := by omega
        have HTK := Lib.hid (take_succ' L i _ hk)
        have HPK := Lib.hid (cuts_one x y k1 k2)
        dsimp only at e0 e1
        have hbx : Below wr.heap.size wr (wr.alloc (.cells #[.int .i64 k1, .int .i64 k2] 44)) := (Below.refl _ _).alloc (Nat.le_refl _) _
        have HX := Lib.hid (heap_alloc_new wr (.cells #[.int .i64 k1, .int .i64 k2] 44))
        have HLX := Lib.hid (And.intro (HL.out.2.1.below hbx) (HL.out.2.2.trans (Chg.of_below hbx)))
        have HX2 := Lib.hid (show wr.heap.size ∉ vblk (.slice ao lo.length cap) ∧ wr.heap.size < (wr.alloc (.cells #[.int .i64 k1, .int .i64 k2] 44)).heap.size from ⟨fun hm => by have := HL.out.2.1.lt _ hm; omega, by simp⟩)
        clear hcell hk hbl hbr c0w hT'
        go_upto_region 9 with fail
        clear e0 e1 c0 hbx
        generalize wr.alloc (.cells #[.int .i64 k1, .int .i64 k2] 44) = w5 at *
        generalize wr.heap.size = X at *
        have x0 : w5.cell? ⟨X, 0, none⟩ = some (.int .i64 k1) := cell_of_row w5 X 0 _ 44 _ HX.out
        have x1 : w5.cell? ⟨X, 1, none⟩ = some (.int .i64 k2) := cell_of_row w5 X 1 _ 44 _ HX.out
        by_cases m1 : k1 < y
        · by_cases m2 : x < k2
          · rw [if_pos (show Mt x y (k1, k2) from ⟨m1, m2⟩)] at HPK
            by_cases n1 : k1 < x
            · rw [if_pos n1] at HPK
              have hA6 : Below w5.heap.size w5 (w5.alloc (.cells #[.int .i64 k1, .int .i64 x] 44)) := (Below.refl _ _).alloc (Nat.le_refl _) _
              have hown := HLX.out.1.below hA6
              have hnew := news_alloc w5 #[.int .i64 k1, .int .i64 x] 44
              go_upto_region 13 with (at_builtin; refine wpList_append_any _ rfl (.tmp 51) (.tmp 56) 39 rfl 44 i0 (.agg #[.int .i64 0, .int .i64 0]) 2 16 Try.underlying39 hi0 hz0 hz1 hz2 rfl (by decide) (.slice ao lo.length cap) lo.length (rc lo) rfl hown (some ⟨w5.heap.size, 0, none⟩) 1 1 (rc [(k1, x)]) rfl (fun h => by cases h) rfl (fun a ha => by cases ha; rw [rc_one]; exact hnew) (rc_onecell _) (by unfold maxLen; omega) (by omega) ?_; intro v6 w6 hown6 hgr6; obtain ⟨ao6, cap6, rfl, _, _⟩ := Sq.slice hown6)
              have HG6 := Lib.hid (grow hown6 hgr6 HLX.out.2)
              have hX6 := (hgr6.block (by have := HX2.out.2; simp; omega) HX2.out.1).trans (((Below.refl w5.heap.size w5).alloc (Nat.le_refl _) _).block _ HX2.out.2 |>.trans HX.out)
              clear x0 x1 hA6 hown hnew hown6 hgr6
              obtain ⟨D2, hD2⟩ : ∃ D2, lo ++ [(k1, x)] = D2 := ⟨_, rfl⟩
              have hDl : lo.length + 1 = D2.length := by rw [← hD2]; simp
              rw [hD2, hDl] at HG6
              rw [hDl]
              have hD2l : D2.length ≤ 2 * i + 1 := by omega
              have HD2 := Lib.hid hD2
              clear hD2 hDl
              have x0 : w6.cell? ⟨X, 0, none⟩ = some (.int .i64 k1) := cell_of_row w6 X 0 _ 44 _ hX6
              have x1 : w6.cell? ⟨X, 1, none⟩ = some (.int .i64 k2) := cell_of_row w6 X 1 _ 44 _ hX6
              clear hX6
              by_cases n2 : y < k2
              · rw [if_pos n2] at HPK
                have hA7 : Below w6.heap.size w6 (w6.alloc (.cells #[.int .i64 y, .int .i64 k2] 44)) := (Below.refl _ _).alloc (Nat.le_refl _) _
                have hown := HG6.out.1.below hA7
                have hnew := news_alloc w6 #[.int .i64 y, .int .i64 k2] 44
                go_wp2_with (at_builtin; refine wpList_append_any _ rfl (.tmp 62) (.tmp 67) 39 rfl 44 i0 (.agg #[.int .i64 0, .int .i64 0]) 2 16 Try.underlying39 hi0 hz0 hz1 hz2 rfl (by decide) (.slice ao6 D2.length cap6) D2.length (rc D2) rfl hown (some ⟨w6.heap.size, 0, none⟩) 1 1 (rc [(y, k2)]) rfl (fun h => by cases h) rfl (fun a ha => by cases ha; rw [rc_one]; exact hnew) (rc_onecell _) (by unfold maxLen; omega) (by omega) ?_; intro v7 w7 hown7 hgr7; obtain ⟨ao7, cap7, rfl, _, _⟩ := Sq.slice hown7)
                have HG := Lib.hid (grow hown7 hgr7 HG6.out.2)
                exact ⟨⟨i + 1, D2 ++ [(y, k2)], hil, by simp, (by first | omega | (simp; omega)), Lib.hid ⟨by rw [HTK.out, cuts_append, ← HL.out.1, HPK.out, ← HD2.out]; simp, HG.out.1, HG.out.2⟩⟩, by simp [intOf]; omega⟩
              · rw [if_neg n2] at HPK
                go_wp2_with fail
                exact ⟨⟨i + 1, D2, hil, by simp, (by first | omega | (simp; omega)), Lib.hid ⟨by rw [HTK.out, cuts_append, ← HL.out.1, HPK.out, ← HD2.out]; simp, HG6.out.1, HG6.out.2⟩⟩, by simp [intOf]; omega⟩
            · rw [if_neg n1] at HPK
              by_cases n2 : y < k2
              · rw [if_pos n2] at HPK
                have hA7 : Below w5.heap.size w5 (w5.alloc (.cells #[.int .i64 y, .int .i64 k2] 44)) := (Below.refl _ _).alloc (Nat.le_refl _) _
                have hown := HLX.out.1.below hA7
                have hnew := news_alloc w5 #[.int .i64 y, .int .i64 k2] 44
                go_wp2_with (at_builtin; refine wpList_append_any _ rfl (.tmp 62) (.tmp 67) 39 rfl 44 i0 (.agg #[.int .i64 0, .int .i64 0]) 2 16 Try.underlying39 hi0 hz0 hz1 hz2 rfl (by decide) (.slice ao lo.length cap) lo.length (rc lo) rfl hown (some ⟨w5.heap.size, 0, none⟩) 1 1 (rc [(y, k2)]) rfl (fun h => by cases h) rfl (fun a ha => by cases ha; rw [rc_one]; exact hnew) (rc_onecell _) (by unfold maxLen; omega) (by omega) ?_; intro v7 w7 hown7 hgr7; obtain ⟨ao7, cap7, rfl, _, _⟩ := Sq.slice hown7)
                have HG := Lib.hid (grow hown7 hgr7 HLX.out.2)
                exact ⟨⟨i + 1, lo ++ [(y, k2)], hil, by simp, (by first | omega | (simp; omega)), Lib.hid ⟨by rw [HTK.out, cuts_append, ← HL.out.1, HPK.out]; simp, HG.out.1, HG.out.2⟩⟩, by simp [intOf]; omega⟩
              · rw [if_neg n2] at HPK
                go_wp2_with fail
                exact ⟨⟨i + 1, lo, hil, by simp, (by first | omega | (simp; omega)), Lib.hid ⟨by rw [HTK.out, cuts_append, ← HL.out.1, HPK.out]; simp, HLX.out.1, HLX.out.2⟩⟩, by simp [intOf]; omega⟩
          · rw [if_neg (show ¬ Mt x y (k1, k2) from fun h => m2 h.2)] at HPK
            have hA7 : Below w5.heap.size w5 (w5.alloc (.cells #[.int .i64 k1, .int .i64 k2] 44)) := (Below.refl _ _).alloc (Nat.le_refl _) _
            have hown := HLX.out.1.below hA7
            have hnew := news_alloc w5 #[.int .i64 k1, .int .i64 k2] 44
            go_wp2_with (at_builtin; refine wpList_append_any _ rfl (.tmp 43) (.tmp 45) 39 rfl 44 i0 (.agg #[.int .i64 0, .int .i64 0]) 2 16 Try.underlying39 hi0 hz0 hz1 hz2 rfl (by decide) (.slice ao lo.length cap) lo.length (rc lo) rfl hown (some ⟨w5.heap.size, 0, none⟩) 1 1 (rc [(k1, k2)]) rfl (fun h => by cases h) rfl (fun a ha => by cases ha; rw [rc_one]; exact hnew) (rc_onecell _) (by unfold maxLen; omega) (by omega) ?_; intro v7 w7 hown7 hgr7; obtain ⟨ao7, cap7, rfl, _, _⟩ := Sq.slice hown7)
            have HG := Lib.hid (grow hown7 hgr7 HLX.out.2)
            exact ⟨⟨i + 1, lo ++ [(k1, k2)], hil, by simp, (by first | omega | (simp; omega)), Lib.hid ⟨by rw [HTK.out, cuts_append, ← HL.out.1, HPK.out], HG.out.1, HG.out.2⟩⟩, by simp [intOf]; omega⟩
        · rw [if_neg (show ¬ Mt x y (k1, k2) from fun h => m1 h.1)] at HPK
          have hA7 : Below w5.heap.size w5 (w5.alloc (.cells #[.int .i64 k1, .int .i64 k2] 44)) := (Below.refl _ _).alloc (Nat.le_refl _) _
          have hown := HLX.out.1.below hA7
          have hnew := news_alloc w5 #[.int .i64 k1, .int .i64 k2] 44
          go_wp2_with (at_builtin; refine wpList_append_any _ rfl (.tmp 43) (.tmp 45) 39 rfl 44 i0 (.agg #[.int .i64 0, .int .i64 0]) 2 16 Try.underlying39 hi0 hz0 hz1 hz2 rfl (by decide) (.slice ao lo.length cap) lo.length (rc lo) rfl hown (some ⟨w5.heap.size, 0, none⟩) 1 1 (rc [(k1, k2)]) rfl (fun h => by cases h) rfl (fun a ha => by cases ha; rw [rc_one]; exact hnew) (rc_onecell _) (by unfold maxLen; omega) (by omega) ?_; intro v7 w7 hown7 hgr7; obtain ⟨ao7, cap7, rfl, _, _⟩ := Sq.slice hown7)
          have HG := Lib.hid (grow hown7 hgr7 HLX.out.2)
          exact ⟨⟨i + 1, lo ++ [(k1, k2)], hil, by simp, (by first | omega | (simp; omega)), Lib.hid ⟨by rw [HTK.out, cuts_append, ← HL.out.1, HPK.out], HG.out.1, HG.out.2⟩⟩, by simp [intOf]; omega⟩
      · have hil2 : i = L.length := by omega
        have hlo2 := HL.out.1
        rw [hil2, List.take_length] at hlo2
        obtain ⟨t1, t2, t3, t4⟩ := HM.out.set HL.out.2.2 HL.out.2.1
        rw [c0w] at t3
        have HS := Lib.hid (And.intro t1 t2)
        have HR1 := Lib.hid hlo2
        clear t1 t2 hlo2 c0 c0w hbr hT'
        go_wp2_with fail
        go_ret
        rw [HE.out.1, HE.out.2]
        exact ⟨rfl, _, HS.out.2, by rw [← HR1.out]; exact HS.out.1⟩
  · have HE := Lib.hid (show cutL x y L = L from if_neg hw)
    have hw2 : (wrg x y != 0) = true := by rw [bne_iff_ne]; exact hw
    clear h
    generalize wrg x y = q at *
    go_enter Try.func42, Try.ntmps42
    go_wp2_with fail
    refine HW.out.mono ?_
    rintro ex w1 ⟨rfl, rfl⟩
    go_wp2_with fail
    go_ret
    rw [HE.out]
    exact ⟨rfl, _, Chg.refl _ _, HM.out⟩

end Go.Proofs.Ytkaglggljomgdaa
