/- Parts of the proofs of layer 20 (regions): contracts of its functions, and the laws' walks. -/
import Derived.Test.YtnakmjajpfilgaaProg
import Derived.WalkKit
import Derived.WalkSpells
import Derived.WalkLawsBesides
import Derived.BigQuiet
import Derived.Deep.QuietTactic
import Derived.Lib.Hide
import Derived.Deep.RegionHeld3
import Derived.Deep.DeepCutAuto
import Derived.KernelRfl
import Derived.Deep.OwnRows
import Derived.Laws.CopyOwn
import Derived.Laws.CopyRow
import Derived.StillTailTactics
import Derived.Deep.RegionLaw
import Derived.Test.YtnakmjajpfilgaaD2
namespace Go.Proofs.Ytnakmjajpfilgaa
open Go.RowKit
set_option linter.unusedVariables false
set_option linter.unusedSimpArgs false

theorem rc_drop (l : List R2) (n : Nat) (j : Nat) : (rc (l.drop n))[j]? = (rc l)[n * 2 + j]? := by
  have h : rc l = rc (l.take n) ++ rc (l.drop n) := by rw [← rc_append, List.take_append_drop]
  by_cases hn : n ≤ l.length
  · rw [h, List.getElem?_append_right (by rw [rc_length, List.length_take, Nat.min_eq_left hn]; omega), rc_length, List.length_take, Nat.min_eq_left hn, show n * 2 + j - n * 2 = j by omega]
  · rw [List.drop_of_length_le (by omega), List.getElem?_eq_none (by rw [rc_length]; simp), List.getElem?_eq_none (by rw [rc_length]; omega)]
theorem rc_take (l : List R2) (n : Nat) (j : Nat) (u : Value) (h : (rc (l.take n))[j]? = some u) : (rc l)[j]? = some u := by
  have e : rc l = rc (l.take n) ++ rc (l.drop n) := by rw [← rc_append, List.take_append_drop]
  rw [e, List.getElem?_append_left (List.getElem?_eq_some_iff.1 h).1]
  exact h
theorem rc_nil : rc [] = [] := rfl
theorem rest_cells {w : World} {ao : Option Addr} {cap n : Nat} {l : List R2} (h : Told w (.slice ao l.length cap) l) (hn : n ≤ l.length) :
    ((if cap = n then ao else Option.map (fun x => x.add (n * 2)) ao) = none → l.length - n = 0 ∧ cap - n = 0) ∧
    ∀ a, (if cap = n then ao else Option.map (fun x => x.add (n * 2)) ao) = some a → ∀ j u, (rc (l.drop n))[j]? = some u → w.cell? (a.add j) = some u := by
  rcases Sq.cases h with ⟨hv, h0⟩ | ⟨b, cap', hv, h1, h2, hbl, hcell, _⟩
  · simp only [Value.slice.injEq] at hv
    obtain ⟨rfl, e1, rfl⟩ := hv
    refine ⟨fun _ => ⟨by omega, by omega⟩, fun a ha j u hj => ?_⟩
    rw [List.drop_of_length_le (by omega)] at hj
    simp [rc_nil] at hj
  · cases hv
    constructor
    · intro hx
      split at hx <;> simp at hx
    · intro a ha j u hj
      rw [rc_drop] at hj
      split at ha
      · rename_i hc
        have := (List.getElem?_eq_some_iff.1 hj).1
        rw [rc_length] at this
        omega
      · simp only [Option.map_some, Option.some.injEq] at ha
        subst ha
        rw [Addr.add_lit, Addr.add_lit, Nat.zero_add]
        exact hcell _ _ hj
theorem head_cells {w : World} {ao : Option Addr} {cap n : Nat} {l : List R2} (h : Told w (.slice ao l.length cap) l) (hn : n ≤ l.length) :
    (ao = none → n = 0 ∧ cap = 0) ∧ ∀ a, ao = some a → ∀ j u, (rc (l.take n))[j]? = some u → w.cell? (a.add j) = some u := by
  rcases Sq.cases h with ⟨hv, h0⟩ | ⟨b, cap', hv, h1, h2, hbl, hcell, _⟩
  · simp only [Value.slice.injEq] at hv
    obtain ⟨rfl, e1, rfl⟩ := hv
    exact ⟨fun _ => And.intro (by omega) rfl, fun a ha => (by cases ha)⟩
  · cases hv
    refine ⟨fun hx => (by cases hx), fun a ha j u hj => ?_⟩
    cases ha
    rw [Addr.add_lit, Nat.zero_add]
    exact hcell _ _ (rc_take l n j u hj)
theorem chg_new (w : World) (o : Obj) : Chg [] [w.heap.size] w (w.alloc o) := by
  have h := (Chg.refl [] w).alloc o
  exact ⟨h.1, h.2.1, h.2.2.1, h.2.2.2.1, h.2.2.2.2.1, fun b hb => by simp at hb; subst hb; exact .inr (Nat.le_refl _)⟩
theorem vblk_any (ao : Option Addr) (n c m d : Nat) : vblk (.slice ao n c) = vblk (.slice ao m d) := by cases ao <;> rfl
theorem Chg.keepl {F F' G H : List Nat} {w w' : World} (h : Chg F F' w w') (hF : ∀ b, b ∈ F → b ∈ G) (hH : ∀ b, b ∈ H → b ∈ G) : Chg G (H ++ F') w w' :=
  ⟨h.1, h.2.1, h.2.2.1, h.2.2.2.1, fun b hb hm => h.2.2.2.2.1 b hb fun q => hm (hF b q), fun b hb => by
    rcases List.mem_append.1 hb with hb | hb
    · exact .inl (hH b hb)
    · exact (h.2.2.2.2.2 b hb).imp (hF b) id⟩
theorem Told.set_other {w : World} {v : Value} {l : List R2} (h : Told w v l) {c : Nat} (hc : c ∉ vblk v) (j : Nat) (u : Value) : Told (w.setCell ⟨c, j, none⟩ u) v l :=
  Sq.of_blocks h fun b hb => Below.heap_setCell _ _ _ _ (fun e => hc (by cases e; exact hb))
/-- What is under way is a new row. -/
theorem Mp.setq {w w3 : World} {g : Nat} {vl vq v' : Value} {l q' : List R2} (h1 : g ∉ vblk vl) (h2 : g ∉ vblk vq) (h3 : Sep (vblk vl) (vblk vq)) (h4 : w.heap[g]? = some (.cells #[vl, vq] 52 (0, 0))) (h5 : Told w vl l) (hlq : ∀ b, b ∈ vblk vq → b < w.heap.size) (hc : Chg (vblk vq) (vblk v') w w3) (hq : Told w3 v' q') :
    Chg (g :: (vblk vl ++ vblk vq)) (g :: (vblk vl ++ vblk v')) w (w3.setCell ⟨g, 1, none⟩ v') ∧ Mp (w3.setCell ⟨g, 1, none⟩ v') g (g :: (vblk vl ++ vblk v')) l q' := by
  have hgl := lt_of_block h4
  have hgv := hc.out h2 hgl
  have hC : Chg (g :: (vblk vl ++ vblk vq)) (g :: vblk vl ++ vblk v') w w3 := hc.keepl (fun b hb => by simp [hb]) (fun b hb => by rcases List.mem_cons.1 hb with rfl | hb <;> simp [*])
  refine ⟨hC.setCell _ _ _ (by simp), vl, v', rfl, h1, hgv, (hc.sep h3.symm h5.lt).symm, ?_, ?_, ?_⟩
  · exact heap_setCell_same w3 g 1 _ 52 _ ((hc.block hgl h2).trans h4)
  · exact (h5.chg hc h3).set_other h1 _ _
  · exact hq.set_other hgv _ _
/-- The regions are a new row. -/
theorem Mp.setl {w w3 : World} {g : Nat} {vl vq v' : Value} {l' q : List R2} (h1 : g ∉ vblk vl) (h2 : g ∉ vblk vq) (h3 : Sep (vblk vl) (vblk vq)) (h4 : w.heap[g]? = some (.cells #[vl, vq] 52 (0, 0))) (h6 : Told w vq q) (hc : Chg (vblk vl) (vblk v') w w3) (hq : Told w3 v' l') :
    Chg (g :: (vblk vl ++ vblk vq)) (g :: (vblk v' ++ vblk vq)) w (w3.setCell ⟨g, 0, none⟩ v') ∧ Mp (w3.setCell ⟨g, 0, none⟩ v') g (g :: (vblk v' ++ vblk vq)) l' q := by
  have hgl := lt_of_block h4
  have hgv := hc.out h1 hgl
  have hC : Chg (g :: (vblk vl ++ vblk vq)) ((g :: vblk vq) ++ vblk v') w w3 := hc.keepl (fun b hb => by simp [hb]) (fun b hb => by rcases List.mem_cons.1 hb with rfl | hb <;> simp [*])
  have hC' : Chg (g :: (vblk vl ++ vblk vq)) (g :: (vblk v' ++ vblk vq)) w w3 := hC.sub fun b hb => by
    rcases List.mem_cons.1 hb with rfl | hb
    · simp
    · rcases List.mem_append.1 hb with hb | hb <;> simp [hb]
  refine ⟨hC'.setCell _ _ _ (by simp), v', vq, rfl, hgv, h2, hc.sep h3 h6.lt, ?_, ?_, ?_⟩
  · exact heap_setCell_same w3 g 0 _ 52 _ ((hc.block hgl h1).trans h4)
  · exact hq.set_other hgv _ _
  · exact (h6.chg hc h3.symm).set_other h2 _ _
set_option maxRecDepth 100000 in
theorem new_any (w : World) : Calls Try.prog 20 #[] w fun e w' => e = .returned (.pointer (some ⟨w.heap.size, 0, none⟩)) ∧ Below w.heap.size w w' ∧ Mp w' w.heap.size [w.heap.size] [] [] := by
  have hb0 : Below w.heap.size w (w.alloc (.cells #[.slice none 0 0, .slice none 0 0] 52)) := (Below.refl _ w).alloc (Nat.le_refl _) _
  have hk : Mp (w.alloc (.cells #[.slice none 0 0, .slice none 0 0] 52)) w.heap.size [w.heap.size] [] [] := ⟨.slice none 0 0, .slice none 0 0, rfl, by simp [vblk_nil], by simp [vblk_nil], fun b hb => by simp [vblk_nil] at hb, heap_alloc_new _ _, Sq.nil _ _ _, Sq.nil _ _ _⟩
  go_enter Try.func20, Try.ntmps20
  go_wp2
  go_ret
  exact ⟨rfl, hb0, hk⟩
set_option maxRecDepth 100000 in
theorem asked_any (g : Nat) (F : List Nat) (l q : List R2) (w : World) (h : Mp w g F l q) :
    Calls Try.prog 22 #[.pointer (some ⟨g, 0, none⟩)] w fun e w' => e = .returned (.int .i64 (q.length : Nat)) ∧ w = w' := by
  obtain ⟨al, cl, aq, cq, c0, c1, hT, hQ⟩ := h.cells
  clear h hT hQ c0
  go_enter Try.func22, Try.ntmps22
  go_wp2
  go_ret
  exact ⟨rfl, rfl⟩
set_option maxRecDepth 100000 in
set_option maxHeartbeats 4000000 in
theorem all_any (g : Nat) (F : List Nat) (l q : List R2) (w : World) (h : Mp w g F l q) (hm : l.length ≤ 100000) :
    Calls Try.prog 10 #[.pointer (some ⟨g, 0, none⟩)] w fun e w' => ∃ v, e = .returned v ∧ Told w' v l ∧ Chg [] (vblk v) w w' := by
  have hE := Sq.lit w #[] 30 2 0 (by unfold maxLen; omega) rfl
  have hbA : Below w.heap.size w (w.alloc (.cells #[] 30)) := (Below.refl _ w).alloc (Nat.le_refl _) _
  obtain ⟨al, cl, aq, cq, c0, c1, hT, hQ⟩ := (h.below hbA).cells
  obtain ⟨p1, p2⟩ := head_cells hT (Nat.le_refl _)
  rw [List.take_length] at p2
  have HC := Lib.hid (chg_new w (.cells #[] 30))
  clear h hQ c1
  obtain ⟨i0, hi0, hz0, hz1, hz2⟩ := info_parts (show (Try.prog.info? 30).map (fun i => (i.zero, i.size, i.bytes)) = some (some (.agg #[.int .i64 0, .int .i64 0]), 2, 16) by kernel_rfl)
  go_enter Try.func10, Try.ntmps10
  go_wp2_with (at_builtin; refine wpList_append_any _ rfl (.tmp 5) (.tmp 9) 28 rfl 30 i0 (.agg #[.int .i64 0, .int .i64 0]) 2 16 Try.underlying28 hi0 hz0 hz1 hz2 rfl (by decide) (.slice (some ⟨w.heap.size, 0, none⟩) 0 0) 0 [] rfl hE _ l.length cl (rc l) rfl p1 (rc_length l) p2 (rc_onecell _) (by unfold maxLen; omega) (by omega) ?_; intro v1 w2 hown1 hgr1)
  refine bodyPost_ret (results_tmp rfl _ _ _) rfl ⟨v1, rfl, ?_, HC.out.trans hgr1⟩
  rw [Nat.zero_add, List.nil_append] at hown1
  exact hown1
set_option maxRecDepth 100000 in
set_option maxHeartbeats 4000000 in
theorem has_any (g : Nat) (F : List Nat) (l q : List R2) (n : Int) (w : World) (h : Mp w g F l q) (hm : l.length ≤ 100000) (hr : ∀ r ∈ l, 0 ≤ r.a ∧ r.a ≤ 65536 ∧ 0 ≤ r.b ∧ r.b ≤ 65536) :
    Calls Try.prog 19 #[.pointer (some ⟨g, 0, none⟩), .int .i64 n] w fun e w' => e = .returned (.bool (decide (0 ≤ n ∧ n < 65536 ∧ cntL l ⟨n, n + 1⟩ = 1))) ∧ Below w.heap.size w w' := by
  by_cases h1 : 0 ≤ n
  · have h1' : decide (0 ≤ n) = true := decide_eq_true h1
    by_cases h2 : n < 65536
    · have h2' : decide (n < 65536) = true := decide_eq_true h2
      have hw : IntKind.i64.wrap (n + 1) = n + 1 := by rw [IntKind.wrap_i64]; omega
      have HM := Lib.hid h
      have HR := Lib.hid hr
      clear h hr
      go_enter Try.func19, Try.ntmps19
      go_wp2_with fail
      refine (count_any g F l q n (n + 1) w HM.out hm HR.out (by omega)).mono ?_
      rintro e w2 ⟨rfl, hb2⟩
      have HB := Lib.hid hb2
      have HE : RowKit.Hid (decide (0 ≤ n ∧ n < 65536 ∧ cntL l ⟨n, n + 1⟩ = 1) = (cntL l ⟨n, n + 1⟩ == 1)) := Lib.hid (by
        rw [Bool.eq_iff_iff, decide_eq_true_eq, beq_iff_eq]
        exact ⟨fun q => q.2.2, fun q => ⟨h1, h2, q⟩⟩)
      clear hb2
      go_wp2_with fail
      refine bodyPost_ret (results_tmp rfl _ _ _) rfl ⟨?_, HB.out⟩
      rw [HE.out]
      rfl
    · have h2' : decide (n < 65536) = false := decide_eq_false h2
      have he : decide (0 ≤ n ∧ n < 65536 ∧ cntL l ⟨n, n + 1⟩ = 1) = false := decide_eq_false (fun q => h2 q.2.1)
      rw [he]
      go_enter Try.func19, Try.ntmps19
      go_wp2_with fail
      exact bodyPost_ret (results_tmp rfl _ _ _) rfl ⟨rfl, Below.refl _ _⟩
  · have h1' : decide (0 ≤ n) = false := decide_eq_false h1
    have he : decide (0 ≤ n ∧ n < 65536 ∧ cntL l ⟨n, n + 1⟩ = 1) = false := decide_eq_false (fun q => h1 q.1)
    rw [he]
    go_enter Try.func19, Try.ntmps19
    go_wp2_with fail
    exact bodyPost_ret (results_tmp rfl _ _ _) rfl ⟨rfl, Below.refl _ _⟩
/-- What Ask answers, what it leaves. -/
def askn (l : List R2) (a b : Int) : Int := if wrg a b = 0 then b - a - cntL l ⟨a, b⟩ else 0
def askq (q : List R2) (a b : Int) : List R2 := if wrg a b = 0 then q ++ [⟨a, b⟩] else q
theorem wrg_ok {a b : Int} (h : wrg a b = 0) : 0 ≤ a ∧ a ≤ b ∧ b ≤ 65536 := by
  unfold wrg at h
  split at h
  · cases h
  · omega
theorem wrg_no {a b : Int} (h : ¬ wrg a b = 0) : wrg a b = 3 := by
  unfold wrg at h ⊢
  split
  · rfl
  · rename_i q; exact absurd (if_neg q) h
set_option maxRecDepth 100000 in
set_option maxHeartbeats 4000000 in
theorem ask_any (g : Nat) (F : List Nat) (l q : List R2) (a b : Int) (w : World) (h : Mp w g F l q) (hm : l.length ≤ 100000) (hq : q.length ≤ 100000) (hr : ∀ r ∈ l, 0 ≤ r.a ∧ r.a ≤ 65536 ∧ 0 ≤ r.b ∧ r.b ≤ 65536) :
    Calls Try.prog 13 #[.pointer (some ⟨g, 0, none⟩), .int .i64 a, .int .i64 b] w fun e w' => e = .returned (.tuple #[.int .i64 (askn l a b), .int .i64 (wrg a b)]) ∧ ∃ F', Chg F F' w w' ∧ Mp w' g F' l (askq q a b) := by
  have HM := Lib.hid h
  have HR := Lib.hid hr
  clear h hr
  go_enter Try.func13, Try.ntmps13
  go_wp2_with fail
  refine (wrong_any g a b w).mono ?_
  rintro e w1 ⟨rfl, rfl⟩
  by_cases hw : wrg a b = 0
  · have HA := Lib.hid (And.intro (show askn l a b = b - a - cntL l ⟨a, b⟩ from if_pos hw) (show askq q a b = q ++ [⟨a, b⟩] from if_pos hw))
    obtain ⟨r1, r2, r3⟩ := wrg_ok hw
    rw [hw]
    have HW := Lib.hid hw
    clear hw
    obtain ⟨vl, vq, rfl, h1, h2, h3, h4, h5, h6⟩ := HM.out
    obtain ⟨aq, cq, rfl, _, _⟩ := h6.slice
    have hA : Below w.heap.size w (w.alloc (.cells #[.int .i64 a, .int .i64 b] 30)) := (Below.refl _ w).alloc (Nat.le_refl _) _
    have hown := h6.below hA
    have h5A := h5.below hA
    have hnew := news_alloc w #[.int .i64 a, .int .i64 b] 30
    have hgA := (hA.block g (lt_of_block h4)).trans h4
    have c1 := cell_of_row w g 1 _ 52 _ h4
    replace c1 : w.cell? ⟨g, 1, none⟩ = some (.slice aq q.length cq) := c1
    have HGR : RowKit.Hid (∀ v' w3, Told w3 v' (q ++ [⟨a, b⟩]) → Chg (vblk (.slice aq q.length cq)) (vblk v') (w.alloc (.cells #[.int .i64 a, .int .i64 b] 30)) w3 → ∃ F', Chg (g :: (vblk vl ++ vblk (.slice aq q.length cq))) F' w (w3.setCell ⟨g, 1, none⟩ v') ∧ Mp (w3.setCell ⟨g, 1, none⟩ v') g F' l (q ++ [⟨a, b⟩])) := Lib.hid (fun v' w3 hT hc => by
      obtain ⟨x1, x2⟩ := Mp.setq h1 h2 h3 hgA h5A hown.lt hc hT
      exact ⟨_, (Chg.of_below hA).trans x1, x2⟩)
    have HGA := Lib.hid (And.intro hgA h2)
    clear hA h5A h4 h5 h6 h1 h2 h3 HM hgA
    obtain ⟨i0, hi0, hz0, hz1, hz2⟩ := info_parts (show (Try.prog.info? 30).map (fun i => (i.zero, i.size, i.bytes)) = some (some (.agg #[.int .i64 0, .int .i64 0]), 2, 16) by kernel_rfl)
    go_wp2_with (at_builtin; refine wpList_append_any _ rfl (.tmp 20) (.tmp 24) 28 rfl 30 i0 (.agg #[.int .i64 0, .int .i64 0]) 2 16 Try.underlying28 hi0 hz0 hz1 hz2 rfl (by decide) (.slice aq q.length cq) q.length (rc q) rfl hown (some ⟨w.heap.size, 0, none⟩) 1 1 (rc [⟨a, b⟩]) rfl (fun h => by cases h) rfl (fun a ha => by cases ha; rw [rc_one]; exact hnew) (rc_onecell _) (by unfold maxLen; omega) (by omega) ?_; intro v' w3 hown3 hgr; obtain ⟨ao3, cap3, rfl, _, _⟩ := Sq.slice hown3; have hg3 := (hgr.block (lt_of_block HGA.out.1) HGA.out.2).trans HGA.out.1; have f3 := frozen_of_row w3 g 1 _ 52 hg3; have c3 := cell_of_row w3 g 1 _ 52 _ hg3)
    have hlen : (q ++ [(⟨a, b⟩ : R2)]).length = q.length + 1 := by rw [List.length_append]; rfl
    obtain ⟨F', hc3, hm3⟩ := HGR.out _ w3 (by unfold Told; rw [hlen, rc_append]; exact hown3) hgr
    have HC3 := Lib.hid hc3
    have HM3 := Lib.hid hm3
    clear hc3 hm3 hgr hown3 hown hnew HGR HGA hg3 f3 c3 c1
    generalize (w3.setCell ⟨g, 1, none⟩ (.slice ao3 (q.length + 1) cap3)) = w4 at *
    refine (count_any g F' l _ a b w4 HM3.out hm HR.out (by omega)).mono ?_
    rintro e w5 ⟨rfl, hb5⟩
    have HB5 := Lib.hid hb5
    have hcn := cntL_nonneg l ⟨a, b⟩
    have hcl := cntL_le ⟨a, b⟩ l HR.out
    clear hb5 hlen
    have hs2 : IntKind.i64.wrap (b - a) = b - a := by rw [IntKind.wrap_i64]; omega
    generalize cntL l ⟨a, b⟩ = c at *
    have hs1 : IntKind.i64.wrap (b - a - c) = b - a - c := by rw [IntKind.wrap_i64]; omega
    go_wp2_with fail
    refine bodyPost_ret (results_tmp2 rfl _ _ _) rfl ?_
    refine ⟨?_, F', HC3.out.trans (Chg.of_below HB5.out), ?_⟩
    · rw [HA.out.1, HW.out]; rfl
    · rw [HA.out.2]; exact HM3.out.below HB5.out
  · have HA := Lib.hid (And.intro (show askn l a b = 0 from if_neg hw) (show askq q a b = q from if_neg hw))
    have HW := Lib.hid (wrg_no hw)
    rw [wrg_no hw]
    clear hw
    go_wp2_with fail
    refine bodyPost_ret (results_tmp2 rfl _ _ _) rfl ⟨by rw [HA.out.1, HW.out]; rfl, F, Chg.refl _ _, by rw [HA.out.2]; exact HM.out⟩

end Go.Proofs.Ytnakmjajpfilgaa
