/- Parts of the proofs of layer 18 (gap): contracts of its functions, and the laws' walks. -/
import Derived.Test.YtkaglggljomgdaaProg
import Derived.WalkKit
import Derived.WalkSpells
import Derived.WalkLawsBesides
import Derived.BigQuiet
import Derived.Deep.QuietTactic
import Derived.Lib.Hide
import Derived.Deep.RegionHeld3
import Derived.Deep.DeepCutAuto
import Derived.KernelRfl
import Derived.Deep.OwnRows
import Derived.Laws.CopyOwn
import Derived.Laws.CopyRow
import Derived.StillTailTactics
import Derived.Deep.RegionLaw
import Derived.Test.YtkaglggljomgdaaH18
import Derived.OwnWalk
namespace Go.Proofs.Ytkaglggljomgdaa
open Go.RowKit
set_option linter.unusedVariables false
set_option linter.unusedSimpArgs false

def delF (x y : Int) (L : List (Int × Int)) : List (Int × Int) := L.filter (fun e => decide (¬ (e.1 = x ∧ e.2 = y)))
theorem delF_append (x y : Int) (L M : List (Int × Int)) : delF x y (L ++ M) = delF x y L ++ delF x y M := List.filter_append ..
theorem delF_one (x y k1 k2 : Int) : delF x y [(k1, k2)] = if k1 = x ∧ k2 = y then [] else [(k1, k2)] := by
  unfold delF
  rw [List.filter_cons]
  by_cases h : k1 = x ∧ k2 = y
  · rw [if_neg (fun hh => (of_decide_eq_true hh) h), if_pos h]; rfl
  · rw [if_pos (decide_eq_true h), if_neg h]; rfl
theorem delF_not {x y : Int} {L : List (Int × Int)} (h : (x, y) ∉ L) : delF x y L = L := List.filter_eq_self.2 fun e he => by
  have : ¬ (e.1 = x ∧ e.2 = y) := fun hh => h (by rw [← hh.1, ← hh.2]; exact he)
  exact decide_eq_true this
theorem delF_lt {x y : Int} {L : List (Int × Int)} (h : (x, y) ∈ L) : (delF x y L).length < L.length := by
  induction L with
  | nil => cases h
  | cons d L ih =>
    have e : delF x y (d :: L) = delF x y [d] ++ delF x y L := delF_append x y [d] L
    have hle : (delF x y L).length ≤ L.length := List.length_filter_le ..
    obtain ⟨d1, d2⟩ := d
    rw [e, delF_one, List.length_append, List.length_cons]
    rcases List.mem_cons.1 h with hd | hm
    · cases hd
      rw [if_pos ⟨rfl, rfl⟩]
      simp only [List.length_nil]; omega
    · have := ih hm
      split <;> simp <;> omega
theorem Rg.inj {L : List (Int × Int)} : ∀ {f g : Int}, Rg f L g → ∀ e ∈ L, ∀ d ∈ L, e.1 = d.1 → e = d := by
  induction L with
  | nil => intro f g h e he; cases he
  | cons c L ih =>
    intro f g h e he d hd hed
    obtain ⟨h1, h2, h3⟩ := h
    rcases List.mem_cons.1 he with e1 | he1
    · rcases List.mem_cons.1 hd with e2 | hd1
      · rw [e1, e2]
      · have := h3.mem d hd1; rw [e1] at hed; omega
    · rcases List.mem_cons.1 hd with e2 | hd1
      · have := h3.mem e he1; rw [e2] at hed; omega
      · exact ih h3 e he1 d hd1 hed
theorem delF_rem {x y : Int} {L : List (Int × Int)} {f g : Int} (h : Rg f L g) (hm : (x, y) ∈ L) : delF x y L = rem x L := by
  unfold delF rem
  refine List.filter_congr fun e he => ?_
  by_cases hx : e.1 = x
  · have : e = (x, y) := h.inj e he (x, y) hm hx
    subst this
    simp
  · simp [hx]
set_option maxRecDepth 100000 in
set_option maxHeartbeats 8000000 in
theorem RDel_any (x y : Int) (g : Nat) (F : List Nat) (L : List (Int × Int)) (w : World) (h : Rt w g F L) (hm : L.length ≤ 5000) (hrg : Rg 1 L 4096) :
    Calls Try.prog 41 #[.pointer (some ⟨g, 0, none⟩), .int .i64 x, .int .i64 y] w fun e w' => e = .returned (.int .i64 (delE x y L)) ∧ ∃ F', Chg F F' w w' ∧ Rt w' g F' (delL x y L) := by
  have HW := Lib.hid (rwrong_any x y w)
  have HM := Lib.hid h
  have HRG := Lib.hid hrg
  by_cases hw : wrg x y = 0
  · rw [hw] at HW
    have HE : RowKit.Hid (delE x y L = if (x, y) ∈ L then 0 else 6) := Lib.hid (by unfold delE; rw [if_neg (by simp [hw])])
    obtain ⟨al, cl, c0, hT⟩ := h.cells
    clear h hT hw hrg
    obtain ⟨i0, hi0, hz0, hz1, hz2⟩ := info_parts (show (Try.prog.info? 44).map (fun i => (i.zero, i.size, i.bytes)) = some (some (.agg #[.int .i64 0, .int .i64 0]), 2, 16) by kernel_rfl)
    go_enter Try.func41, Try.ntmps41
    go_wp2_with fail
    refine HW.out.mono ?_
    rintro ex w1 ⟨rfl, rfl⟩
    go_wp2_with fail
    clear c0
    go_loopw [8, 9] (fun o s wr => ∃ (i : Nat) (lo : List (Int × Int)), i ≤ L.length ∧ s = .int .i64 (i : Nat) ∧ lo.length ≤ i ∧ RowKit.Hid (lo = delF x y (L.take i) ∧ Told wr o lo ∧ Chg [] (vblk o) w wr)) (fun _ s _ => L.length - (intOf s).toNat)
    case atStart => exact ⟨0, [], Nat.zero_le _, rfl, Nat.zero_le _, Lib.hid ⟨rfl, Sq.nil _ _ _, by rw [vblk_nil]; exact Chg.refl _ _⟩⟩
    case round =>
      obtain ⟨i, lo, hi, rfl, hlo, HL⟩ := hrel
      have hbr : Below w.heap.size w wr := HL.out.2.2.below (fun b hb => by simp at hb) (Nat.le_refl _)
      obtain ⟨al', cl', c0w, hT'⟩ := HM.out.cells
      have c0 := cell_keep hbr c0w
      obtain ⟨ao, cap, rfl, _, _⟩ := HL.out.2.1.slice
      by_cases hil : i < L.length
      · obtain ⟨bl, cl2, hv, hbl, hcell⟩ := (hT'.below hbr).read (ne_nil_of_lt hil)
        cases hv
        have hk := List.getElem?_eq_getElem hil
        generalize L[i] = k at hk
        obtain ⟨k1, k2⟩ := k
        obtain ⟨e0, e1⟩ := hcell i _ hk
        have hiI : ((i : Nat) : Int) < ((L.length : Nat) : Int) := by omega
        have HTK := Lib.hid (take_succ' L i _ hk)
        have HDK := Lib.hid (delF_one x y k1 k2)
        dsimp only at e0 e1
        clear hcell hk hbl hbr c0w hT'
        by_cases m1 : k1 = x
        · by_cases m2 : k2 = y
          · rw [if_pos ⟨m1, m2⟩] at HDK
            go_wp2_with fail
            exact ⟨⟨i + 1, lo, hil, by simp, by omega, Lib.hid ⟨by rw [HTK.out, delF_append, ← HL.out.1, HDK.out, List.append_nil], HL.out.2.1, HL.out.2.2⟩⟩, by simp [intOf]; omega⟩
          · rw [if_neg (fun h => m2 h.2)] at HDK
            subst m1
            have hA : Below wr.heap.size wr (wr.alloc (.cells #[.int .i64 k1, .int .i64 k2] 44)) := (Below.refl _ _).alloc (Nat.le_refl _) _
            have hown := HL.out.2.1.below hA
            have hnew := news_alloc wr #[.int .i64 k1, .int .i64 k2] 44
            go_wp2_with (at_builtin; refine wpList_append_any _ rfl (.tmp 47) (.tmp 55) 39 rfl 44 i0 (.agg #[.int .i64 0, .int .i64 0]) 2 16 Try.underlying39 hi0 hz0 hz1 hz2 rfl (by decide) (.slice ao lo.length cap) lo.length (rc lo) rfl hown (some ⟨wr.heap.size, 0, none⟩) 1 1 (rc [(k1, k2)]) rfl (fun h => by cases h) rfl (fun a ha => by cases ha; rw [rc_one]; exact hnew) (rc_onecell _) (by unfold maxLen; omega) (by omega) ?_; intro v7 w7 hown7 hgr7; obtain ⟨ao7, cap7, rfl, _, _⟩ := Sq.slice hown7)
            have HG := Lib.hid (grow hown7 hgr7 HL.out.2.2)
            exact ⟨⟨i + 1, lo ++ [(k1, k2)], hil, by simp, by simp; omega, Lib.hid ⟨by rw [HTK.out, delF_append, ← HL.out.1, HDK.out], HG.out.1, HG.out.2⟩⟩, by simp [intOf]; omega⟩
        · rw [if_neg (fun h => m1 h.1)] at HDK
          have hA : Below wr.heap.size wr (wr.alloc (.cells #[.int .i64 k1, .int .i64 k2] 44)) := (Below.refl _ _).alloc (Nat.le_refl _) _
          have hown := HL.out.2.1.below hA
          have hnew := news_alloc wr #[.int .i64 k1, .int .i64 k2] 44
          go_wp2_with (at_builtin; refine wpList_append_any _ rfl (.tmp 47) (.tmp 55) 39 rfl 44 i0 (.agg #[.int .i64 0, .int .i64 0]) 2 16 Try.underlying39 hi0 hz0 hz1 hz2 rfl (by decide) (.slice ao lo.length cap) lo.length (rc lo) rfl hown (some ⟨wr.heap.size, 0, none⟩) 1 1 (rc [(k1, k2)]) rfl (fun h => by cases h) rfl (fun a ha => by cases ha; rw [rc_one]; exact hnew) (rc_onecell _) (by unfold maxLen; omega) (by omega) ?_; intro v7 w7 hown7 hgr7; obtain ⟨ao7, cap7, rfl, _, _⟩ := Sq.slice hown7)
          have HG := Lib.hid (grow hown7 hgr7 HL.out.2.2)
          exact ⟨⟨i + 1, lo ++ [(k1, k2)], hil, by simp, by simp; omega, Lib.hid ⟨by rw [HTK.out, delF_append, ← HL.out.1, HDK.out], HG.out.1, HG.out.2⟩⟩, by simp [intOf]; omega⟩
      · have hil2 : i = L.length := by omega
        have hlo2 := HL.out.1
        rw [hil2, List.take_length] at hlo2
        by_cases hin : (x, y) ∈ L
        · have HE0 := Lib.hid (show delE x y L = 0 ∧ delL x y L = rem x L from by
            have e0 : delE x y L = 0 := by rw [HE.out, if_pos hin]
            exact ⟨e0, if_pos e0⟩)
          have hlt := delF_lt hin
          rw [← hlo2] at hlt
          have hrm := delF_rem HRG.out hin
          rw [← hlo2] at hrm
          obtain ⟨t1, t2, t3, t4⟩ := HM.out.set HL.out.2.2 HL.out.2.1
          rw [c0w] at t3
          have HS := Lib.hid (And.intro t1 t2)
          have HR1 := Lib.hid hrm
          have hne : ¬ ((lo.length : Nat) : Int) = ((L.length : Nat) : Int) := by omega
          clear t1 t2 hrm hlo2 c0 c0w hbr hT' hin hlt
          go_wp2_with fail
          go_ret
          rw [HE0.out.1, HE0.out.2]
          exact ⟨rfl, _, HS.out.2, by rw [← HR1.out]; exact HS.out.1⟩
        · have HE0 := Lib.hid (show delE x y L = 6 ∧ delL x y L = L from by
            have e0 : delE x y L = 6 := by rw [HE.out, if_neg hin]
            exact ⟨e0, if_neg (by rw [e0]; decide)⟩)
          have hlen : lo.length = L.length := by rw [hlo2, delF_not hin]
          have HB5 := Lib.hid hbr
          clear hlo2 c0w hbr hT' hin
          go_wp2_with fail
          go_ret
          rw [HE0.out.1, HE0.out.2]
          exact ⟨rfl, F, Chg.of_below HB5.out, HM.out.below HB5.out⟩
  · have hE : delE x y L = wrg x y := by unfold delE; rw [if_pos hw]
    have HE := Lib.hid (And.intro hE (show delL x y L = L from if_neg (by rw [hE]; exact hw)))
    have hw2 : (wrg x y != 0) = true := by rw [bne_iff_ne]; exact hw
    clear hE h
    generalize wrg x y = q at *
    go_enter Try.func41, Try.ntmps41
    go_wp2_with fail
    refine HW.out.mono ?_
    rintro ex w1 ⟨rfl, rfl⟩
    go_wp2_with fail
    go_ret
    rw [HE.out.1, HE.out.2]
    exact ⟨rfl, _, Chg.refl _ _, HM.out⟩

end Go.Proofs.Ytkaglggljomgdaa
