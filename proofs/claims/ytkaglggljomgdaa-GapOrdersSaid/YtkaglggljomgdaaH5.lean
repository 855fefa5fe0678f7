/- Parts of the proofs of layer 18 (gap): contracts of its functions, and the laws' walks. -/
import Derived.Test.YtkaglggljomgdaaProg
import Derived.WalkKit
import Derived.WalkSpells
import Derived.WalkLawsBesides
import Derived.BigQuiet
import Derived.Deep.QuietTactic
import Derived.Lib.Hide
import Derived.Deep.RegionHeld3
import Derived.Deep.DeepCutAuto
import Derived.KernelRfl
import Derived.Deep.OwnRows
import Derived.Laws.CopyOwn
import Derived.Laws.CopyRow
import Derived.StillTailTactics
import Derived.Deep.RegionLaw
import Derived.Test.YtkaglggljomgdaaH4
namespace Go.Proofs.Ytkaglggljomgdaa
open Go.RowKit
set_option linter.unusedVariables false
set_option linter.unusedSimpArgs false

theorem tlist_cnt_put (t : Tr) (x y : Int) : cnt (putT t x y) = cnt t + 1 := by
  induction t with
  | nil => simp [putT, cnt]
  | nd a b l r ihl ihr =>
    rw [putT]
    split
    · rw [cnt_of_list (t := .nd a b (putT l x y) r) (by rw [tlist_balT, tlist]), cnt, ihl, cnt]; omega
    · rw [cnt_of_list (t := .nd a b l (putT r x y)) (by rw [tlist_balT, tlist]), cnt, ihr, cnt]; omega
theorem vals_put (t : Tr) (x y : Int) (hx : 0 ≤ x ∧ x ≤ 5000 ∧ 0 ≤ y ∧ y ≤ 5000) (h : Vals t) : Vals (putT t x y) := by
  induction t with
  | nil => exact ⟨hx, trivial, trivial⟩
  | nd a b l r ihl ihr =>
    obtain ⟨h1, h2, h3⟩ := h
    rw [putT]
    split
    · exact vals_of_list (t := .nd a b (putT l x y) r) ⟨h1, ihl h2, h3⟩ (by rw [tlist_balT, tlist])
    · exact vals_of_list (t := .nd a b l (putT r x y)) ⟨h1, h2, ihr h3⟩ (by rw [tlist_balT, tlist])
/-- One side of a node is another tree. -/
theorem Pn.left {w w' : World} {n : Nat} {a b h f l g m : Int} {vl vr v : Option Addr} {t' tr : Tr} {Fl Fr F' : List Nat} (hn : w.heap[n]? = some (nc a b vl vr h f l g m)) (hr : Nd w tr vr Fr) (h1 : n ∉ Fl) (h2 : n ∉ Fr) (h3 : Sep Fl Fr) (hc : Chg Fl F' w w') (ht : Nd w' t' v F') :
    Pn (w'.setCell ⟨n, 2, none⟩ (.pointer v)) n a b t' tr (n :: (F' ++ Fr)) ∧ Chg (n :: (Fl ++ Fr)) (n :: (F' ++ Fr)) w (w'.setCell ⟨n, 2, none⟩ (.pointer v)) ∧ w'.heap[n]? = some (nc a b vl vr h f l g m) := by
  have row := (hc.block (lt_of_block hn) h1).trans hn
  have hnF : n ∉ F' := fun hm => by
    rcases hc.2.2.2.2.2 n hm with h | h
    · exact h1 h
    · have := lt_of_block hn; omega
  refine ⟨⟨_, _, _, _, _, v, vr, F', Fr, (nc_setp row v).1, ht.other hnF _ _, (hr.chg hc h3.symm).other h2 _ _, rfl, hnF, h2, hc.sep h3 hr.lt⟩, ?_, row⟩
  exact (hc.frame (F := n :: (Fl ++ Fr)) (F' := n :: (F' ++ Fr)) (by grind) (by grind)).setCell n 2 (.pointer v) (by simp)
theorem Pn.right {w w' : World} {n : Nat} {a b h f l g m : Int} {vl vr v : Option Addr} {t' tl : Tr} {Fl Fr F' : List Nat} (hn : w.heap[n]? = some (nc a b vl vr h f l g m)) (hl : Nd w tl vl Fl) (h1 : n ∉ Fl) (h2 : n ∉ Fr) (h3 : Sep Fl Fr) (hc : Chg Fr F' w w') (ht : Nd w' t' v F') :
    Pn (w'.setCell ⟨n, 3, none⟩ (.pointer v)) n a b tl t' (n :: (Fl ++ F')) ∧ Chg (n :: (Fl ++ Fr)) (n :: (Fl ++ F')) w (w'.setCell ⟨n, 3, none⟩ (.pointer v)) ∧ w'.heap[n]? = some (nc a b vl vr h f l g m) := by
  have row := (hc.block (lt_of_block hn) h2).trans hn
  have hnF : n ∉ F' := fun hm => by
    rcases hc.2.2.2.2.2 n hm with h | h
    · exact h2 h
    · have := lt_of_block hn; omega
  refine ⟨⟨_, _, _, _, _, vl, v, Fl, F', (nc_setp row v).2, (hl.chg hc h3).other h1 _ _, ht.other hnF _ _, rfl, h1, hnF, (hc.sep h3.symm hl.lt).symm⟩, ?_, row⟩
  exact (hc.frame (F := n :: (Fl ++ Fr)) (F' := n :: (Fl ++ F')) (by grind) (by grind)).setCell n 3 (.pointer v) (by simp)
theorem Chg.fresh (w : World) (o : Obj) : Chg [] [w.heap.size] w (w.alloc o) := by
  obtain ⟨h1, h2, h3, h4, h5, h6⟩ := (Chg.refl [] w).alloc o
  exact ⟨h1, h2, h3, h4, h5, fun b hb => .inr (by simp at hb; omega)⟩
set_option maxHeartbeats 2000000 in
theorem put_any (x y : Int) (hxy : 0 ≤ x ∧ x ≤ 5000 ∧ 0 ≤ y ∧ y ≤ 5000) (t : Tr) : ∀ (v : Option Addr) (F : List Nat) (w : World), Nd w t v F → Vals t → cnt t + 1 ≤ 5000 →
    Calls Try.prog 35 #[.pointer v, .int .i64 x, .int .i64 y] w fun e w' => ∃ v' F', e = .returned (.pointer (some v')) ∧ Chg F F' w w' ∧ Nd w' (putT t x y) (some v') F' := by
  induction t with
  | nil =>
    intro v F w h hv hc
    obtain ⟨rfl, rfl⟩ := h
    go_enter Try.func35, Try.ntmps35
    go_wp2_with fail
    have hp : Pn (w.alloc (nc x y none none 0 0 0 0 0)) w.heap.size x y .nil .nil [w.heap.size] := ⟨0, 0, 0, 0, 0, none, none, [], [], heap_alloc_new w _, ⟨rfl, rfl⟩, ⟨rfl, rfl⟩, rfl, by simp, by simp, by unfold Sep; simp⟩
    refine (renew_pn _ x y .nil .nil _ _ hp ⟨hxy, trivial, trivial⟩ (by simp [cnt])).mono ?_
    rintro e w6 ⟨rfl, hc6, hn6⟩
    have hc7 := Lib.hid ((Chg.fresh w (nc x y none none 0 0 0 0 0)).trans hc6)
    have hn7 := Lib.hid hn6
    clear hp hc6 hn6
    go_wp2_with fail
    go_ret
    exact ⟨_, _, rfl, hc7.out, hn7.out⟩
  | nd a b l r ihl ihr =>
    intro v F w h hv hc
    obtain ⟨n, vl, vr, Fl, Fr, rfl, hn, hl, hr, rfl, h1, h2, h3⟩ := h
    obtain ⟨hv0, hvl, hvr⟩ := hv
    have hcl := cnt_nonneg l
    have hcr := cnt_nonneg r
    have hc' := hc
    rw [cnt] at hc'
    obtain ⟨c0, c1, c2, c3, c4, c5, c6, c7, c8⟩ := nc_cells hn
    have fz := fun j => frozen_of_row w n j _ 60 hn
    clear c1 c4 c5 c6 c7 c8
    by_cases hxa : x < a
    · have HH := Lib.hid (ihl vl Fl w hl hvl (by omega))
      have HB := Lib.hid (fun (w5 : World) F5 (hp : Pn w5 n a b (putT l x y) r F5) => balance_any n a b (putT l x y) r F5 w5 hp ⟨hv0, vals_put l x y hxy hvl, hvr⟩ (by rw [cnt, tlist_cnt_put]; omega))
      have HT := Lib.hid (show putT (.nd a b l r) x y = balT a b (putT l x y) r from by rw [putT, if_pos hxa])
      clear hcl hcr hc hc' hv0
      go_enter Try.func35, Try.ntmps35
      go_wp2_with fail
      refine HH.out.mono ?_
      rintro e w4 ⟨v', F', rfl, hc4, hn4⟩
      obtain ⟨hp, hc5, row⟩ := Pn.left hn hr h1 h2 h3 hc4 hn4
      have HP := Lib.hid hp
      have HC := Lib.hid hc5
      obtain ⟨d0, d1, d2, d3, d4, d5, d6, d7, d8⟩ := nc_cells row
      have gz := fun j => frozen_of_row w4 n j _ 60 row
      clear c0 c2 c3 fz d0 d1 d4 d5 d6 d7 d8 hp hc5 row hc4 hn4 hn hl hr HH
      go_wp2_with fail
      refine (HB.out _ _ HP.out).mono ?_
      rintro e w6 ⟨v6, F6, rfl, hc6, hn6⟩
      go_wp2_with fail
      go_ret
      exact ⟨v6, F6, rfl, HC.out.trans hc6, by rw [HT.out]; exact hn6⟩
    · have HH := Lib.hid (ihr vr Fr w hr hvr (by omega))
      have HB := Lib.hid (fun (w5 : World) F5 (hp : Pn w5 n a b l (putT r x y) F5) => balance_any n a b l (putT r x y) F5 w5 hp ⟨hv0, hvl, vals_put r x y hxy hvr⟩ (by rw [cnt, tlist_cnt_put]; omega))
      have HT := Lib.hid (show putT (.nd a b l r) x y = balT a b l (putT r x y) from by rw [putT, if_neg hxa])
      clear hcl hcr hc hc' hv0
      go_enter Try.func35, Try.ntmps35
      go_wp2_with fail
      refine HH.out.mono ?_
      rintro e w4 ⟨v', F', rfl, hc4, hn4⟩
      obtain ⟨hp, hc5, row⟩ := Pn.right hn hl h1 h2 h3 hc4 hn4
      have HP := Lib.hid hp
      have HC := Lib.hid hc5
      obtain ⟨d0, d1, d2, d3, d4, d5, d6, d7, d8⟩ := nc_cells row
      have gz := fun j => frozen_of_row w4 n j _ 60 row
      clear c0 c2 c3 fz d0 d1 d4 d5 d6 d7 d8 hp hc5 row hc4 hn4 hn hl hr HH
      go_wp2_with fail
      refine (HB.out _ _ HP.out).mono ?_
      rintro e w6 ⟨v6, F6, rfl, hc6, hn6⟩
      go_wp2_with fail
      go_ret
      exact ⟨v6, F6, rfl, HC.out.trans hc6, by rw [HT.out]; exact hn6⟩

end Go.Proofs.Ytkaglggljomgdaa
