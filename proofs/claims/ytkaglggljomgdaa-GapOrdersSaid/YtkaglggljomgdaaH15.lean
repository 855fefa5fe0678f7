/- Parts of the proofs of layer 18 (gap): contracts of its functions, and the laws' walks. -/
import Derived.Test.YtkaglggljomgdaaProg
import Derived.WalkKit
import Derived.WalkSpells
import Derived.WalkLawsBesides
import Derived.BigQuiet
import Derived.Deep.QuietTactic
import Derived.Lib.Hide
import Derived.Deep.RegionHeld3
import Derived.Deep.DeepCutAuto
import Derived.KernelRfl
import Derived.Deep.OwnRows
import Derived.Laws.CopyOwn
import Derived.Laws.CopyRow
import Derived.StillTailTactics
import Derived.Deep.RegionLaw
import Derived.Test.YtkaglggljomgdaaH14
import Derived.OwnWalk
namespace Go.Proofs.Ytkaglggljomgdaa
open Go.RowKit
set_option linter.unusedVariables false
set_option linter.unusedSimpArgs false

def pcs (k : Int × Int) : List Value := [.int .i64 k.1, .int .i64 k.2]
theorem pcs_length (k : Int × Int) : (pcs k).length = 2 := rfl
/-- The cells of stretches in a row. -/
def rc (l : List (Int × Int)) : List Value := l.flatMap pcs
theorem rc_length (l : List (Int × Int)) : (rc l).length = l.length * 2 := flat_length _ 2 pcs_length l
theorem rc_get (l : List (Int × Int)) (i : Nat) (k : Int × Int) (h : l[i]? = some k) : (rc l)[i * 2]? = some (.int .i64 k.1) ∧ (rc l)[i * 2 + 1]? = some (.int .i64 k.2) := by
  have h0 := flat_get pcs 2 pcs_length l i 0 (by decide)
  have h1 := flat_get pcs 2 pcs_length l i 1 (by decide)
  rw [h] at h0 h1
  exact ⟨h0, h1⟩
theorem rc_one (k : Int × Int) : rc [k] = pcs k := by simp [rc]
theorem rc_append (a b : List (Int × Int)) : rc (a ++ b) = rc a ++ rc b := by simp [rc]
theorem rc_onecell (l : List (Int × Int)) : ∀ u ∈ rc l, u.oneCell' = true := by
  intro u hu
  obtain ⟨k, _, hk⟩ := List.mem_flatMap.1 hu
  simp only [pcs, List.mem_cons, List.not_mem_nil, or_false] at hk
  rcases hk with rfl | rfl <;> rfl
theorem news_alloc (w : World) (cs : Array Value) (e : TypeId) : ∀ j u, cs.toList[j]? = some u → (w.alloc (.cells cs e)).cell? ((⟨w.heap.size, 0, none⟩ : Addr).add j) = some u := by
  intro j u hj
  rw [Addr.add_lit, Nat.zero_add]
  simp only [World.cell?, Deep.blk_alloc_new]
  simpa using hj
theorem take_succ' {α : Type} (l : List α) (i : Nat) (a : α) (h : l[i]? = some a) : l.take (i + 1) = l.take i ++ [a] := by rw [List.take_add_one, h]; rfl
theorem Chg.out {F F' : List Nat} {w w' : World} {g : Nat} (h : Chg F F' w w') (hf : g ∉ F) (hg : g < w.heap.size) : g ∉ F' := fun hm => by
  rcases h.2.2.2.2.2 g hm with h | h
  · exact hf h
  · omega
/-- Stretches told: a row of their own. -/
def Told (w : World) (v : Value) (l : List (Int × Int)) : Prop := Sq w 44 2 v l.length (rc l)
theorem Told.lt {w : World} {v : Value} {l : List (Int × Int)} (h : Told w v l) : ∀ b, b ∈ vblk v → b < w.heap.size := Sq.lt h
theorem Told.below {w w' : World} {v : Value} {l : List (Int × Int)} (h : Told w v l) (hb : Below w.heap.size w w') : Told w' v l := Sq.below h hb
theorem Told.chg {w w' : World} {v : Value} {l : List (Int × Int)} {F F' : List Nat} (h : Told w v l) (hc : Chg F F' w w') (hs : Sep (vblk v) F) : Told w' v l := Sq.chg h hc hs
theorem Told.slice {w : World} {v : Value} {l : List (Int × Int)} (h : Told w v l) : ∃ ao cap, v = .slice ao l.length cap ∧ l.length ≤ cap ∧ cap ≤ maxLen := Sq.slice h
theorem Told.read {w : World} {v : Value} {l : List (Int × Int)} (h : Told w v l) (hl : l ≠ []) : ∃ b cap, v = .slice (some ⟨b, 0, none⟩) l.length cap ∧ b < w.heap.size ∧ ∀ i k, l[i]? = some k → w.cell? ⟨b, i * 2, none⟩ = some (.int .i64 k.1) ∧ w.cell? ⟨b, i * 2 + 1, none⟩ = some (.int .i64 k.2) := by
  rcases Sq.cases h with ⟨_, h0⟩ | ⟨b, cap, rfl, _, _, hb, hcell, _⟩
  · exact (hl (List.eq_nil_of_length_eq_zero h0)).elim
  · exact ⟨b, cap, rfl, hb, fun i k hk => ⟨hcell _ _ (rc_get l i k hk).1, hcell _ _ (rc_get l i k hk).2⟩⟩
theorem Told.set_other {w : World} {v : Value} {l : List (Int × Int)} (h : Told w v l) {c : Nat} (hc : c ∉ vblk v) (j : Nat) (u : Value) : Told (w.setCell ⟨c, j, none⟩ u) v l :=
  Sq.of_blocks h fun b hb => Below.heap_setCell _ _ _ _ (fun e => hc (by cases e; exact hb))
theorem Told.one_more {w : World} {v : Value} {l : List (Int × Int)} {k : Int × Int} (h : Sq w 44 2 v (l.length + 1) (rc l ++ rc [k])) : Told w v (l ++ [k]) := by
  unfold Told
  rw [List.length_append, rc_append]
  exact h
theorem ne_nil_of_lt {α : Type} {l : List α} {i : Nat} (h : i < l.length) : l ≠ [] := fun e => by rw [e] at h; simp at h
/-- What the closure of All holds. -/
def AS (w : World) (A3 A4 : Nat) (o : Value) (done : List (Int × Int)) : Prop :=
  w.heap[A3]? = some (.cells #[o] 39 (0, 0)) ∧ w.heap[A4]? = some (.cells #[.func (Fn.func 38) #[] #[.pointer (some ⟨A4, 0, none⟩), .pointer (some ⟨A3, 0, none⟩)]] 70 (0, 0)) ∧ Told w o done ∧ A3 ∉ vblk o ∧ A4 ∉ A3 :: vblk o
theorem AS.drew {w : World} {A3 A4 : Nat} {o : Value} {done : List (Int × Int)} (h : AS w A3 A4 o done) : AS w.drew A3 A4 o done := h
theorem AS.more {w w3 : World} {A3 A4 : Nat} {v v' : Value} {D : List (Int × Int)} {e : Int × Int} {ob : Obj} (h : AS w A3 A4 v D) (hown : Sq w3 44 2 v' (D.length + 1) (rc D ++ rc [e])) (hgr : Chg (vblk v) (vblk v') (w.alloc ob).drew w3) :
    AS (w3.setCell ⟨A3, 0, none⟩ v') A3 A4 v' (D ++ [e]) ∧ Chg (A3 :: vblk v) (A3 :: vblk v') w (w3.setCell ⟨A3, 0, none⟩ v') := by
  obtain ⟨h1, h2, h3, h4, h5⟩ := h
  have hA : Below w.heap.size w (w.alloc ob) := (Below.refl _ _).alloc (Nat.le_refl _) _
  have hc : Chg (vblk v) (vblk v') w w3 := (Chg.of_below hA).trans hgr.drew'
  have g1 := lt_of_block h1
  have g2 := lt_of_block h2
  have n3 := hc.out h4 g1
  have hne : A4 ≠ A3 := fun e => h5 (by simp [e])
  have r3 := (hc.block g1 h4).trans h1
  have r4 := (hc.block g2 (fun hm => h5 (by simp [hm]))).trans h2
  have n4 : A4 ∉ A3 :: vblk v' := fun hm => by
    rcases List.mem_cons.1 hm with e | hm
    · exact hne e
    · exact hc.out (fun hm => h5 (by simp [hm])) g2 hm
  exact ⟨⟨(heap_setCell_same w3 A3 0 _ 39 _ r3).trans rfl, row_other r4 hne _ _, (Told.one_more hown).set_other n3 _ _, n3, n4⟩, (hc.cons A3).setCell _ _ _ (by simp)⟩
set_option maxHeartbeats 4000000 in
theorem All1_any (A3 A4 : Nat) (t : Tr) : ∀ (v : Option Addr) (F : List Nat) (o : Value) (done : List (Int × Int)) (w : World), AS w A3 A4 o done → Nd w t v F → Sep F (A3 :: vblk o) → done.length + (tlist t).length ≤ 5000 →
    Calls Try.prog 38 #[.pointer v, .pointer (some ⟨A4, 0, none⟩), .pointer (some ⟨A3, 0, none⟩)] w fun e w' => e = .returned (.tuple #[]) ∧ ∃ o', AS w' A3 A4 o' (done ++ tlist t) ∧ Chg (A3 :: vblk o) (A3 :: vblk o') w w' := by
  induction t with
  | nil =>
    intro v F o done w hA hN hs hlen
    obtain ⟨rfl, rfl⟩ := hN
    have HA := Lib.hid hA
    clear hA
    go_enter Try.func38, Try.ntmps38
    go_wp2_with fail
    go_end0
    exact ⟨rfl, o, by rw [tlist, List.append_nil]; exact HA.out, Chg.refl _ _⟩
  | nd a b l r ihl ihr =>
    intro v F o done w hA hN hs hlen
    obtain ⟨k, rfl, _⟩ := hN.pn
    rw [tlist, List.length_append, List.length_cons] at hlen
    have HA := Lib.hid hA
    have HN := Lib.hid hN
    have HS := Lib.hid hs
    obtain ⟨k', vl, vr, Fl, Fr, e1, hn, hl, hr, rfl, h1, h2, h3⟩ := hN
    cases e1
    have c3 := cell_of_one hA.1
    have c4 := cell_of_one hA.2.1
    obtain ⟨k0, k1, k2, k3, k4, k5, k6, k7, k8⟩ := nc_cells hn
    clear k0 k1 k3 k4 k5 k6 k7 k8
    have HL := Lib.hid (ihl vl Fl o done w.drew hA.drew hl.drew (fun x hx => hs x (by simp [hx])) (by omega))
    clear hA hs hn hl hr
    go_enter Try.func38, Try.ntmps38
    go_upto_region 1 with fail
    go_still_tail 5, (by kernel_rfl)
    change wpList _ _ _ _ _ (World.drew _)
    go_wp2_with fail
    refine HL.out.mono ?_
    rintro ex w2 ⟨rfl, o2, hA2, hc2⟩
    replace hc2 := hc2.drew'
    have HN2 := Lib.hid (HN.out.chg hc2 HS.out)
    have HS2 := Lib.hid ((hc2.sep HS.out.symm HN.out.lt).symm)
    have HC2 := Lib.hid hc2
    have HA2 := Lib.hid hA2
    clear hc2 HL c3 c4 k2 HN HS HA
    obtain ⟨a1, a2, a3, a4, a5⟩ := hA2
    obtain ⟨ao, cap, rfl, _, _⟩ := a3.slice
    have hdl : (done ++ tlist l).length ≤ 5000 := by rw [List.length_append]; omega
    obtain ⟨D, hD⟩ : ∃ D, done ++ tlist l = D := ⟨_, rfl⟩
    rw [hD] at HA2 HC2 HS2 a1 a3 a4 a5 hdl
    have HD := Lib.hid hD
    clear hD
    obtain ⟨k', vl', vr', Fl', Fr', e1, hn, hl, hr, e2, h1', h2', h3'⟩ := HN2.out
    cases e1
    obtain ⟨k0, k1, k2, k3, k4, k5, k6, k7, k8⟩ := nc_cells hn
    have hA : Below w2.heap.size w2 (w2.alloc (.cells #[.int .i64 a, .int .i64 b] 44)) := (Below.refl _ _).alloc (Nat.le_refl _) _
    have hown := a3.below hA
    have hnew := news_alloc w2 #[.int .i64 a, .int .i64 b] 44
    have b3 := cell_of_one a1
    have b3A := cell_keep hA b3
    have k0A := cell_keep hA k0
    have k1A := cell_keep hA k1
    have HX := Lib.hid (And.intro (And.intro (hA.block _ (lt_of_block a1)) (lt_of_block a1)) hA)
    clear k2 k3 k4 k5 k6 k7 k8 hA hn hl hr
    obtain ⟨i0, hi0, hz0, hz1, hz2⟩ := info_parts (show (Try.prog.info? 44).map (fun i => (i.zero, i.size, i.bytes)) = some (some (.agg #[.int .i64 0, .int .i64 0]), 2, 16) by kernel_rfl)
    go_upto_region 2 with fail
    go_region_law (first | (refine step_append_any _ rfl (.tmp 12) (.tmp 22) 39 rfl 44 i0 (.agg #[.int .i64 0, .int .i64 0]) 2 16 Try.underlying39 hi0 hz0 hz1 hz2 rfl (by decide) (.slice ao D.length cap) D.length (rc D) rfl hown (some ⟨w2.heap.size, 0, none⟩) 1 1 (rc [(a, b)]) rfl (fun h => by cases h) rfl (fun a ha => by cases ha; rw [rc_one]; exact hnew) (rc_onecell _) (by unfold maxLen; omega) (by omega) ?_; intro v' w3 hown3 hgr; obtain ⟨ao3, cap3, rfl, _, _⟩ := Sq.slice hown3; have y3 := (hgr.block (by simp; have := HX.out.1.2; omega) a4).trans (HX.out.1.1.trans a1); have b3' := cell_of_one y3; have f3' := free_of_one y3))
    all_goals
      obtain ⟨x1, x2⟩ := HA2.out.more hown3 hgr
      have HA4 := Lib.hid x1
      have HC4 := Lib.hid x2
      clear x1 x2 hown3 hgr y3 b3' f3' hown hnew b3 b3A k0 k1 k0A k1A a1 a2 a3 a4 a5 e2 hi0 hz0 hz1 hz2
      generalize w3.setCell ⟨A3, 0, none⟩ (.slice ao3 (D.length + 1) cap3) = w4 at *
      have HN4 := Lib.hid (HN2.out.chg HC4.out HS2.out)
      have HS4 := Lib.hid ((HC4.out.sep HS2.out.symm HN2.out.lt).symm)
      obtain ⟨k', vl4, vr4, Fl4, Fr4, e1, hn, hl, hr, e2, h14, h24, h34⟩ := HN4.out
      cases e1
      rw [e2] at HS4
      have c4 := cell_of_one HA4.out.2.1
      obtain ⟨k0, k1, k2, k3, k4, k5, k6, k7, k8⟩ := nc_cells hn
      clear k0 k1 k2 k4 k5 k6 k7 k8 e2
      have HL := Lib.hid (ihr vr4 Fr4 _ (D ++ [(a, b)]) w4.drew HA4.out.drew hr.drew (fun x hx => HS4.out x (by simp [hx])) (by rw [← HD.out]; simp only [List.length_append, List.length_cons, List.length_nil]; omega))
      clear hn hl hr
      go_upto_region 3 with fail
      go_still_tail 5, (by kernel_rfl)
      change wpList _ _ _ _ _ (World.drew _)
      go_wp2_with fail
      refine HL.out.mono ?_
      rintro ex w6 ⟨rfl, o6, hA6, hc6⟩
      have HA6 := Lib.hid hA6
      have HC6 := Lib.hid ((HC2.out.trans HC4.out).trans hc6.drew')
      clear hA6 hc6 HL c4 k3
      go_wp2_with fail
      go_end0
      exact ⟨rfl, o6, by rw [tlist, ← List.append_assoc, HD.out]; have := HA6.out; rw [List.append_assoc] at this; exact this, HC6.out⟩

end Go.Proofs.Ytkaglggljomgdaa
