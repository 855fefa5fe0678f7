/- Parts of the proofs of layer 18 (gap): contracts of its functions, and the laws' walks. -/
import Derived.Test.YtkaglggljomgdaaProg
import Derived.WalkKit
import Derived.WalkSpells
import Derived.WalkLawsBesides
import Derived.BigQuiet
import Derived.Deep.QuietTactic
import Derived.Lib.Hide
import Derived.Deep.RegionHeld3
import Derived.Deep.DeepCutAuto
import Derived.KernelRfl
import Derived.Deep.OwnRows
import Derived.Laws.CopyOwn
import Derived.Laws.CopyRow
import Derived.StillTailTactics
import Derived.Deep.RegionLaw
import Derived.Test.YtkaglggljomgdaaK3
import Derived.OwnWalk
namespace Go.Proofs.Ytkaglggljomgdaa
open Go.RowKit
set_option linter.unusedVariables false
set_option linter.unusedSimpArgs false

/-- The object of a tree. -/
def Tg (w : World) (g : Nat) (F : List Nat) (t : Tr) : Prop := ∃ v F', w.heap[g]? = some (.cells #[.pointer v] 64 (0, 0)) ∧ Nd w t v F' ∧ F = g :: F' ∧ g ∉ F'
def Gt (w : World) (g : Nat) (F : List Nat) (L : List (Int × Int)) : Prop := ∃ t, Tg w g F t ∧ Good t ∧ tlist t = L
theorem Tg.of_blocks {w w' : World} {g : Nat} {F : List Nat} {t : Tr} (h : Tg w g F t) (hb : ∀ b, b ∈ F → w'.heap[b]? = w.heap[b]?) : Tg w' g F t := by
  obtain ⟨v, F', hg, hn, rfl, h1⟩ := h
  exact ⟨v, F', (hb g (by simp)).trans hg, hn.of_blocks fun b h => hb b (by simp [h]), rfl, h1⟩
theorem Gt.of_blocks {w w' : World} {g : Nat} {F : List Nat} {L : List (Int × Int)} (h : Gt w g F L) (hb : ∀ b, b ∈ F → w'.heap[b]? = w.heap[b]?) : Gt w' g F L := by
  obtain ⟨t, ht, r⟩ := h
  exact ⟨t, ht.of_blocks hb, r⟩
theorem Tg.lt {w : World} {g : Nat} {F : List Nat} {t : Tr} (h : Tg w g F t) : ∀ b, b ∈ F → b < w.heap.size := by
  obtain ⟨v, F', hg, hn, rfl, h1⟩ := h
  intro b hb
  rcases List.mem_cons.1 hb with rfl | hb
  · exact lt_of_block hg
  · exact hn.lt b hb
theorem Gt.lt {w : World} {g : Nat} {F : List Nat} {L : List (Int × Int)} (h : Gt w g F L) : ∀ b, b ∈ F → b < w.heap.size := by
  obtain ⟨t, ht, r⟩ := h
  exact ht.lt
theorem Gt.chg {w w' : World} {g : Nat} {F G G' : List Nat} {L : List (Int × Int)} (h : Gt w g F L) (hc : Chg G G' w w') (hs : Sep F G) : Gt w' g F L := h.of_blocks fun b hb => hc.block (h.lt b hb) (hs b hb)
theorem Gt.below {w w' : World} {g : Nat} {F : List Nat} {L : List (Int × Int)} (h : Gt w g F L) (hc : Below w.heap.size w w') : Gt w' g F L := h.of_blocks fun b hb => hc.block b (h.lt b hb)
theorem Gt.drewN {w : World} {g : Nat} {F : List Nat} {L : List (Int × Int)} (h : Gt w g F L) (k : Nat) : Gt (w.drewN k) g F L := h.of_blocks fun _ _ => rfl
theorem Gt.rg {w : World} {g : Nat} {F : List Nat} {L : List (Int × Int)} (h : Gt w g F L) : Rg 1 L 4096 := by
  obtain ⟨t, _, ht, rfl⟩ := h
  exact ht.1
theorem new_any (w : World) : Calls Try.prog 19 #[] w fun e w' => e = .returned (.pointer (some ⟨w.heap.size, 0, none⟩)) ∧ Chg [] [w.heap.size] w w' ∧ Gt w' w.heap.size [w.heap.size] [] := by
  have hg : (w.alloc (.cells #[.pointer none] 64 (0, 0))).heap[w.heap.size]? = some (.cells #[.pointer none] 64 (0, 0)) := heap_alloc_new w _
  have HC := Lib.hid (Chg.fresh w (.cells #[.pointer none] 64 (0, 0)))
  have HG := Lib.hid hg
  clear hg
  go_enter Try.func19, Try.ntmps19
  go_wp2
  go_ret
  exact ⟨rfl, HC.out, .nil, ⟨none, [], HG.out, ⟨rfl, rfl⟩, rfl, by simp⟩, ⟨by show (1 : Int) ≤ 4096; omega, trivial⟩, rfl⟩
theorem tg_store {w w' : World} {g : Nat} {v v' : Option Addr} {F F' : List Nat} {t' : Tr} (hg : w.heap[g]? = some (.cells #[.pointer v] 64 (0, 0))) (h1 : g ∉ F) (hc : Chg F F' w w') (hn : Nd w' t' v' F') :
    Tg (w'.setCell ⟨g, 0, none⟩ (.pointer v')) g (g :: F') t' ∧ Chg (g :: F) (g :: F') w (w'.setCell ⟨g, 0, none⟩ (.pointer v')) ∧ w'.heap[g]? = some (.cells #[.pointer v] 64 (0, 0)) := by
  have row := (hc.block (lt_of_block hg) h1).trans hg
  have hnF : g ∉ F' := fun hm => by
    rcases hc.2.2.2.2.2 g hm with h | h
    · exact h1 h
    · have := lt_of_block hg; omega
  refine ⟨⟨v', F', ?_, hn.other hnF _ _, rfl, hnF⟩, (hc.cons g).setCell g 0 _ (by simp), row⟩
  exact (heap_setCell_same w' g 0 _ 64 _ row).trans rfl
set_option maxHeartbeats 1000000 in
theorem Put_any (x y : Int) (g : Nat) (F : List Nat) (L : List (Int × Int)) (w : World) (h : Gt w g F L) :
    Calls Try.prog 16 #[.pointer (some ⟨g, 0, none⟩), .int .i64 x, .int .i64 y] w fun e w' => e = .returned (.int .i64 (putE x y L)) ∧ ∃ F', Chg F F' w w' ∧ Gt w' g F' (putL x y L) := by
  obtain ⟨t, ht, hgd, rfl⟩ := h
  by_cases hw : wrg x y = 0
  · obtain ⟨hx, hxy, hy⟩ := wrg_ok.1 hw
    have hmt := meetT_find t x y hxy _ _ hgd.1
    have HG := Lib.hid (And.intro hgd ht)
    obtain ⟨v, F', hg, hn, rfl, h1⟩ := ht
    cases hf : fm x y (tlist t) with
    | some e =>
      have hE : putE x y (tlist t) = 7 := by unfold putE; rw [if_neg (by simp [hw]), hf]; rfl
      have HE := Lib.hid (And.intro hE (show putL x y (tlist t) = tlist t from if_neg (by rw [hE]; omega)))
      have HH := Lib.hid (meets_any g x y t v F' w hg hn)
      have HW := Lib.hid (wrong_any ⟨g, 0, none⟩ x y w)
      rw [hf] at hmt
      rw [hmt, hw] at *
      clear hmt hf hE hw hg hn hgd
      go_enter Try.func16, Try.ntmps16
      go_wp2_with fail
      refine HW.out.mono ?_
      rintro ex w1 ⟨rfl, rfl⟩
      go_wp2_with fail
      refine HH.out.mono ?_
      rintro ex w1 ⟨u, rfl, rfl, k, _, _, _, _, _, _, _, rfl, _⟩
      go_wp2_with fail
      go_ret
      rw [HE.out.1, HE.out.2]
      exact ⟨rfl, _, Chg.refl _ _, t, HG.out.2, HG.out.1, rfl⟩
    | none =>
      have hE : putE x y (tlist t) = 0 := by unfold putE; rw [if_neg (by simp [hw]), hf]; rfl
      have HE := Lib.hid (And.intro hE (show putL x y (tlist t) = ins x y (tlist t) from if_pos hE))
      have HP := Lib.hid (put_good hgd hx hxy hy (fm_none_iff.1 hf))
      have HH := Lib.hid (meets_any g x y t v F' w hg hn)
      have HW := Lib.hid (wrong_any ⟨g, 0, none⟩ x y w)
      have HU := Lib.hid (put_any x y (by omega) t v F' w hn hgd.vals (by have := hgd.cnt; omega))
      rw [hf] at hmt
      rw [hmt, hw] at *
      clear hmt hf hE hw hn hgd
      go_enter Try.func16, Try.ntmps16
      go_wp2_with fail
      refine HW.out.mono ?_
      rintro ex w1 ⟨rfl, rfl⟩
      go_wp2_with fail
      refine HH.out.mono ?_
      rintro ex w1 ⟨u, rfl, rfl, hu⟩
      obtain rfl : u = none := hu
      have c0 := cell_of_one hg
      have fz := fun j => frozen_of_row w g j _ 64 hg
      go_wp2_with fail
      refine HU.out.mono ?_
      rintro ex w2 ⟨v2, F2, rfl, hc2, hn2⟩
      obtain ⟨ht2, hc3, hg2⟩ := tg_store hg h1 hc2 hn2
      have HT := Lib.hid (And.intro ht2 hc3)
      have c0 := cell_of_one hg2
      have fz := fun j => frozen_of_row w2 g j _ 64 hg2
      clear hg hg2 hc2 hn2 ht2 hc3
      go_wp2_with fail
      go_ret
      rw [HE.out.1, HE.out.2]
      exact ⟨rfl, _, HT.out.2, _, HT.out.1, HP.out.1, HP.out.2⟩
  · have hE : putE x y (tlist t) = wrg x y := by unfold putE; rw [if_pos hw]
    have HE := Lib.hid (And.intro hE (show putL x y (tlist t) = tlist t from if_neg (by rw [hE]; exact hw)))
    have HG := Lib.hid (And.intro hgd ht)
    have HW := Lib.hid (wrong_any ⟨g, 0, none⟩ x y w)
    have hw2 : (wrg x y != 0) = true := by rw [bne_iff_ne]; exact hw
    clear hE hgd ht
    generalize wrg x y = q at *
    go_enter Try.func16, Try.ntmps16
    go_wp2_with fail
    refine HW.out.mono ?_
    rintro ex w1 ⟨rfl, rfl⟩
    go_wp2_with fail
    go_ret
    rw [HE.out.1, HE.out.2]
    exact ⟨rfl, _, Chg.refl _ _, t, HG.out.2, HG.out.1, rfl⟩
theorem Put_nil (x y : Int) (w : World) : Calls Try.prog 16 #[.pointer none, .int .i64 x, .int .i64 y] w fun e w' => e = .returned (.int .i64 1) ∧ w = w' := by
  go_enter Try.func16, Try.ntmps16
  go_wp2_with fail
  refine (wrong_nil x y w).mono ?_
  rintro ex w1 ⟨rfl, rfl⟩
  go_wp2_with fail
  go_ret
  exact ⟨rfl, rfl⟩

end Go.Proofs.Ytkaglggljomgdaa
