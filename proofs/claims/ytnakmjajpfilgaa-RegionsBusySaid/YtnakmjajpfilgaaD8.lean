/- Parts of the proofs of layer 20 (regions): contracts of its functions, and the laws' walks. -/
import Derived.Test.YtnakmjajpfilgaaProg
import Derived.WalkKit
import Derived.WalkSpells
import Derived.WalkLawsBesides
import Derived.BigQuiet
import Derived.Deep.QuietTactic
import Derived.Lib.Hide
import Derived.Deep.RegionHeld3
import Derived.Deep.DeepCutAuto
import Derived.KernelRfl
import Derived.Deep.OwnRows
import Derived.Laws.CopyOwn
import Derived.Laws.CopyRow
import Derived.StillTailTactics
import Derived.Deep.RegionLaw
import Derived.Test.YtnakmjajpfilgaaD7
namespace Go.Proofs.Ytnakmjajpfilgaa
open Go.RowKit
set_option linter.unusedVariables false
set_option linter.unusedSimpArgs false

theorem rowIs_block {w w' : World} {b : Nat} {t : TypeId} {n : Nat} {f : Nat → Value} (h : w.rowIs b t n f) (e : w'.heap[b]? = w.heap[b]?) : w'.rowIs b t n f := by
  obtain ⟨c, h1, h2⟩ := h
  exact ⟨c, e.trans h1, h2⟩
theorem rowIs_lt {w : World} {b : Nat} {t : TypeId} {n : Nat} {f : Nat → Value} (h : w.rowIs b t n f) : b < w.heap.size := by
  obtain ⟨c, h1, h2⟩ := h
  exact lt_of_block h1
/-- The reference's map: its struct in block g, of each number whether it is in a region in block bi, what is under way. -/
def Rm (w : World) (g bi : Nat) (F : List Nat) (f : Nat → Bool) (q : List R2) : Prop :=
  ∃ vq, F = g :: bi :: vblk vq ∧ g ≠ bi ∧ g ∉ vblk vq ∧ bi ∉ vblk vq ∧ w.heap[g]? = some (.cells #[.slice (some ⟨bi, 0, none⟩) 65536 65536, vq] 43 (0, 0)) ∧ w.rowIs bi 4 65536 (fun i => .bool (f i)) ∧ Told w vq q
theorem Rm.lt {w : World} {g bi : Nat} {F : List Nat} {f : Nat → Bool} {q : List R2} (h : Rm w g bi F f q) : ∀ b, b ∈ F → b < w.heap.size := by
  obtain ⟨vq, rfl, h1, h2, h3, h4, h5, h6⟩ := h
  intro b hb
  rcases List.mem_cons.1 hb with rfl | hb
  · exact lt_of_block h4
  · rcases List.mem_cons.1 hb with rfl | hb
    · exact rowIs_lt h5
    · exact h6.lt b hb
theorem Rm.chg {w w' : World} {g bi : Nat} {F G G' : List Nat} {f : Nat → Bool} {q : List R2} (h : Rm w g bi F f q) (hc : Chg G G' w w') (hs : Sep F G) : Rm w' g bi F f q := by
  have hl := h.lt
  obtain ⟨vq, rfl, h1, h2, h3, h4, h5, h6⟩ := h
  exact ⟨vq, rfl, h1, h2, h3, (hc.block (hl g (by simp)) (hs g (by simp))).trans h4, rowIs_block h5 (hc.block (hl bi (by simp)) (hs bi (by simp))), h6.chg hc fun b hb => hs b (by simp [hb])⟩
theorem Rm.below {w w' : World} {g bi : Nat} {F : List Nat} {f : Nat → Bool} {q : List R2} (h : Rm w g bi F f q) (hb : Below w.heap.size w w') : Rm w' g bi F f q :=
  h.chg (Chg.of_below (F := []) hb) fun _ _ hm => by simp at hm
theorem Rm.drew {w : World} {g bi : Nat} {F : List Nat} {f : Nat → Bool} {q : List R2} (h : Rm w g bi F f q) : Rm w.drew g bi F f q := h
theorem Rm.drewN {w : World} {g bi : Nat} {F : List Nat} {f : Nat → Bool} {q : List R2} (h : Rm w g bi F f q) (n : Nat) : Rm (w.drewN n) g bi F f q := h
theorem Rm.cells {w : World} {g bi : Nat} {F : List Nat} {f : Nat → Bool} {q : List R2} (h : Rm w g bi F f q) : ∃ aq cq, w.cell? ⟨g, 0, none⟩ = some (.slice (some ⟨bi, 0, none⟩) 65536 65536) ∧ w.cell? ⟨g, 1, none⟩ = some (.slice aq q.length cq) ∧ Told w (.slice aq q.length cq) q ∧ ∀ i, i < 65536 → w.cell? ⟨bi, i, none⟩ = some (.bool (f i)) := by
  obtain ⟨vq, rfl, h1, h2, h3, h4, h5, h6⟩ := h
  obtain ⟨aq, cq, rfl, _, _⟩ := h6.slice
  exact ⟨aq, cq, cell_of_row w g 0 _ 43 _ h4, cell_of_row w g 1 _ 43 _ h4, h6, fun i hi => h5.cell hi⟩
theorem Rm.setq {w w3 : World} {g bi : Nat} {vq v' : Value} {f : Nat → Bool} {q' : List R2} (h1 : g ≠ bi) (h2 : g ∉ vblk vq) (h3 : bi ∉ vblk vq) (h4 : w.heap[g]? = some (.cells #[.slice (some ⟨bi, 0, none⟩) 65536 65536, vq] 43 (0, 0))) (h5 : w.rowIs bi 4 65536 (fun i => .bool (f i))) (hc : Chg (vblk vq) (vblk v') w w3) (hq : Told w3 v' q') :
    Chg (g :: bi :: vblk vq) (g :: bi :: vblk v') w (w3.setCell ⟨g, 1, none⟩ v') ∧ Rm (w3.setCell ⟨g, 1, none⟩ v') g bi (g :: bi :: vblk v') f q' := by
  have hgl := lt_of_block h4
  have hbl := rowIs_lt h5
  refine ⟨((hc.cons bi).cons g).setCell _ _ _ (by simp), v', rfl, h1, hc.out h2 hgl, hc.out h3 hbl, ?_, ?_, ?_⟩
  · exact heap_setCell_same w3 g 1 _ 43 _ ((hc.block hgl h2).trans h4)
  · exact rowIs_block h5 ((Below.heap_setCell _ _ _ _ (Ne.symm h1)).trans (hc.block hbl h3))
  · exact hq.set_other (hc.out h2 hgl) _ _
theorem Rm.setf {w : World} {g bi : Nat} {F : List Nat} {f : Nat → Bool} {q : List R2} (h : Rm w g bi F f q) (k : Nat) (x : Bool) :
    Chg F F w (w.setCell ⟨bi, k, none⟩ (.bool x)) ∧ Rm (w.setCell ⟨bi, k, none⟩ (.bool x)) g bi F (fun i => if i = k then x else f i) q := by
  obtain ⟨vq, rfl, h1, h2, h3, h4, h5, h6⟩ := h
  refine ⟨(Chg.refl _ _).setCell _ _ _ (by simp), vq, rfl, h1, h2, h3, (Below.heap_setCell _ _ _ _ h1).trans h4, ?_, h6.set_other h3 _ _⟩
  refine (h5.set k (.bool x)).congr fun i hi => ?_
  show (if i = k then Value.bool x else Value.bool (f i)) = Value.bool (if i = k then x else f i)
  split <;> rfl
theorem Rm.frozen {w : World} {g bi : Nat} {F : List Nat} {f : Nat → Bool} {q : List R2} (h : Rm w g bi F f q) (k : Nat) : w.frozen? ⟨bi, k, none⟩ = false := by
  obtain ⟨vq, rfl, h1, h2, h3, h4, h5, h6⟩ := h
  exact h5.frozen k
set_option maxRecDepth 100000 in
theorem rnew_any (w : World) : Calls Try.prog 23 #[] w fun e w' => ∃ g bi F, e = .returned (.pointer (some ⟨g, 0, none⟩)) ∧ Below w.heap.size w w' ∧ Rm w' g bi F (fun _ => false) [] ∧ ∀ b, b ∈ F → w.heap.size ≤ b := by
  have hmk : (Instr.makeSlice 41 (.int .i64 65536) (.int .i64 65536)).run Try.prog w = .ok (.slice (some ⟨w.heap.size, 0, none⟩) 65536 65536) (w.alloc (.cells (madeCells #[.bool false] 65536) 4)) := run_make_row' (P := Try.prog) 41 4 (.bool false) 1 (by kernel_rfl) (by kernel_rfl) rfl .i64 .i64 65536 (by omega) (by omega) w
  have hrow := World.rowIs_made w (.bool false) 65536 4
  have hb := (Below.refl w.heap.size w).alloc (Nat.le_refl _) (Obj.cells (madeCells #[.bool false] 65536) 4)
  generalize hX : w.alloc (Obj.cells (madeCells #[.bool false] 65536) 4) = X at hrow hb hmk
  have hXs : X.heap.size = w.heap.size + 1 := by rw [← hX]; exact World.size_alloc _ _
  clear hX
  have HB := Lib.hid (hb.alloc hb.size (.cells #[.slice (some ⟨w.heap.size, 0, none⟩) 65536 65536, .slice none 0 0] 43))
  have HS := Lib.hid hXs
  have HR : RowKit.Hid (Rm (X.alloc (.cells #[.slice (some ⟨w.heap.size, 0, none⟩) 65536 65536, .slice none 0 0] 43)) X.heap.size w.heap.size [X.heap.size, w.heap.size] (fun _ => false) []) := Lib.hid ⟨.slice none 0 0, rfl, by omega, by simp [vblk_nil], by simp [vblk_nil], heap_alloc_new _ _, hrow.alloc _, Sq.nil _ _ _⟩
  clear hb hrow hXs
  go_enter Try.func23, Try.ntmps23
  go_wp2_with fail
  go_ret
  exact ⟨_, _, _, rfl, HB.out, HR.out, fun b hb => by have := HS.out; simp at hb; omega⟩
set_option maxRecDepth 100000 in
theorem rwrong_any (a b : Int) (w : World) :
    Calls Try.prog 14 #[.int .i64 a, .int .i64 b] w fun e w' => e = .returned (.int .i64 (wrg a b)) ∧ w = w' := by
  by_cases h1 : a < 0
  · have hw : wrg a b = 3 := if_pos (.inl h1)
    rw [hw]
    have h1' : decide (a < 0) = true := decide_eq_true h1
    go_enter Try.func14, Try.ntmps14
    go_wp2
    go_ret
    exact ⟨rfl, rfl⟩
  · have h1' : decide (a < 0) = false := decide_eq_false h1
    by_cases h2 : 65536 < b
    · have hw : wrg a b = 3 := if_pos (.inr (.inl h2))
      rw [hw]
      have h2' : decide (65536 < b) = true := decide_eq_true h2
      go_enter Try.func14, Try.ntmps14
      go_wp2
      go_ret
      exact ⟨rfl, rfl⟩
    · have h2' : decide (65536 < b) = false := decide_eq_false h2
      by_cases h3 : b < a
      · have hw : wrg a b = 3 := if_pos (.inr (.inr h3))
        rw [hw]
        have h3' : decide (b < a) = true := decide_eq_true h3
        go_enter Try.func14, Try.ntmps14
        go_wp2
        go_ret
        exact ⟨rfl, rfl⟩
      · have hw : wrg a b = 0 := if_neg (by omega)
        rw [hw]
        have h3' : decide (b < a) = false := decide_eq_false h3
        go_enter Try.func14, Try.ntmps14
        go_wp2
        go_ret
        exact ⟨rfl, rfl⟩
set_option maxRecDepth 100000 in
set_option maxHeartbeats 4000000 in
theorem rcount_any (g bi : Nat) (F : List Nat) (f : Nat → Bool) (q : List R2) (a b : Int) (w : World) (h : Rm w g bi F f q) :
    Calls Try.prog 31 #[.pointer (some ⟨g, 0, none⟩), .int .i64 a, .int .i64 b] w fun e w' => e = .returned (.int .i64 (cq f a b 65536 : Nat)) ∧ w = w' := by
  obtain ⟨aq, cq', c0, _, _, hcell⟩ := h.cells
  have HC := Lib.hid hcell
  clear h hcell
  go_enter Try.func31, Try.ntmps31
  go_wp2_with fail
  go_loop [7, 8] (fun n i => ∃ k m : Nat, k ≤ 65536 ∧ m ≤ k ∧ i = .int .i64 (k : Nat) ∧ n = .int .i64 (m : Nat) ∧ RowKit.Hid (m = cq f a b k)) (fun _ i => 65536 - (intOf i).toNat)
  case atStart => exact ⟨0, 0, Nat.zero_le _, Nat.le_refl _, rfl, rfl, Lib.hid rfl⟩
  case round =>
    obtain ⟨k, m, hk, hmk, rfl, rfl, HM⟩ := hrel
    by_cases hlt : k < 65536
    · have hI : decide ((k : Int) < 65536) = true := decide_eq_true (by omega)
      have hI2 : ((k : Nat) : Int) < 65536 := by omega
      have e0 := HC.out k hlt
      have HS := Lib.hid (cq_succ f a b k)
      by_cases h1 : a ≤ (k : Int)
      · have h1' : decide (a ≤ (k : Int)) = true := decide_eq_true h1
        by_cases h2 : (k : Int) < b
        · have h2' : decide ((k : Int) < b) = true := decide_eq_true h2
          by_cases h3 : f k = true
          · have HN : RowKit.Hid (m + 1 = cq f a b (k + 1)) := Lib.hid (by rw [HS.out, if_pos ⟨h1, h2, h3⟩, ← HM.out])
            rw [h3] at e0
            clear HM HS h3
            go_wp2_with fail
            exact ⟨⟨k + 1, m + 1, hlt, by omega, by simp, by simp, HN⟩, by simp [intOf]; omega⟩
          · have HN : RowKit.Hid (m = cq f a b (k + 1)) := Lib.hid (by rw [HS.out, if_neg (fun q => h3 q.2.2), ← HM.out]; rfl)
            rw [Bool.not_eq_true] at h3
            rw [h3] at e0
            clear HM HS h3
            go_wp2_with fail
            exact ⟨⟨k + 1, m, hlt, by omega, by simp, rfl, HN⟩, by simp [intOf]; omega⟩
        · have h2' : decide ((k : Int) < b) = false := decide_eq_false h2
          have HN : RowKit.Hid (m = cq f a b (k + 1)) := Lib.hid (by rw [HS.out, if_neg (fun q => h2 q.2.1), ← HM.out]; rfl)
          clear HM HS
          go_wp2_with fail
          exact ⟨⟨k + 1, m, hlt, by omega, by simp, rfl, HN⟩, by simp [intOf]; omega⟩
      · have h1' : decide (a ≤ (k : Int)) = false := decide_eq_false h1
        have HN : RowKit.Hid (m = cq f a b (k + 1)) := Lib.hid (by rw [HS.out, if_neg (fun q => h1 q.1), ← HM.out]; rfl)
        clear HM HS
        go_wp2_with fail
        exact ⟨⟨k + 1, m, hlt, by omega, by simp, rfl, HN⟩, by simp [intOf]; omega⟩
    · have hk2 : k = 65536 := by omega
      subst hk2
      go_wp2_with fail
      refine bodyPost_ret (results_tmp rfl _ _ _) rfl ⟨?_, rfl⟩
      rw [← HM.out]
      rfl
def rcnt (f : Nat → Bool) (a b : Int) : Int := (cq f a b 65536 : Nat)
def raskn (f : Nat → Bool) (a b : Int) : Int := if wrg a b = 0 then b - a - rcnt f a b else 0
set_option maxRecDepth 100000 in
set_option maxHeartbeats 4000000 in
theorem rask_any (g bi : Nat) (F : List Nat) (f : Nat → Bool) (q : List R2) (a b : Int) (w : World) (h : Rm w g bi F f q) (hq : q.length ≤ 100000) :
    Calls Try.prog 27 #[.pointer (some ⟨g, 0, none⟩), .int .i64 a, .int .i64 b] w fun e w' => e = .returned (.tuple #[.int .i64 (raskn f a b), .int .i64 (wrg a b)]) ∧ ∃ F', Chg F F' w w' ∧ Rm w' g bi F' f (askq q a b) := by
  have HM := Lib.hid h
  clear h
  go_enter Try.func27, Try.ntmps27
  go_wp2_with fail
  refine (rwrong_any a b w).mono ?_
  rintro e w1 ⟨rfl, rfl⟩
  by_cases hw : wrg a b = 0
  · have HA := Lib.hid (And.intro (show raskn f a b = b - a - rcnt f a b from if_pos hw) (show askq q a b = q ++ [⟨a, b⟩] from if_pos hw))
    obtain ⟨r1, r2, r3⟩ := wrg_ok hw
    rw [hw]
    have HW := Lib.hid hw
    clear hw
    obtain ⟨vq, rfl, h1, h2, h3, h4, h5, h6⟩ := HM.out
    obtain ⟨aq, cq', rfl, _, _⟩ := h6.slice
    have hA : Below w.heap.size w (w.alloc (.cells #[.int .i64 a, .int .i64 b] 30)) := (Below.refl _ w).alloc (Nat.le_refl _) _
    have hown := h6.below hA
    have hnew := news_alloc w #[.int .i64 a, .int .i64 b] 30
    have hgA := (hA.block g (lt_of_block h4)).trans h4
    have h5A := rowIs_block h5 (hA.block bi (rowIs_lt h5))
    have c1 := cell_of_row w g 1 _ 43 _ h4
    replace c1 : w.cell? ⟨g, 1, none⟩ = some (.slice aq q.length cq') := c1
    have HGR : RowKit.Hid (∀ v' w3, Told w3 v' (q ++ [⟨a, b⟩]) → Chg (vblk (.slice aq q.length cq')) (vblk v') (w.alloc (.cells #[.int .i64 a, .int .i64 b] 30)) w3 → ∃ F', Chg (g :: bi :: vblk (.slice aq q.length cq')) F' w (w3.setCell ⟨g, 1, none⟩ v') ∧ Rm (w3.setCell ⟨g, 1, none⟩ v') g bi F' f (q ++ [⟨a, b⟩])) := Lib.hid (fun v' w3 hT hc => by
      obtain ⟨x1, x2⟩ := Rm.setq h1 h2 h3 hgA h5A hc hT
      exact ⟨_, (Chg.of_below hA).trans x1, x2⟩)
    have HGA := Lib.hid (And.intro hgA h2)
    clear hA h4 h5 h6 h1 h2 h3 HM hgA h5A
    obtain ⟨i0, hi0, hz0, hz1, hz2⟩ := info_parts (show (Try.prog.info? 30).map (fun i => (i.zero, i.size, i.bytes)) = some (some (.agg #[.int .i64 0, .int .i64 0]), 2, 16) by kernel_rfl)
    go_wp2_with (at_builtin; refine wpList_append_any _ rfl (.tmp 19) (.tmp 23) 28 rfl 30 i0 (.agg #[.int .i64 0, .int .i64 0]) 2 16 Try.underlying28 hi0 hz0 hz1 hz2 rfl (by decide) (.slice aq q.length cq') q.length (rc q) rfl hown (some ⟨w.heap.size, 0, none⟩) 1 1 (rc [⟨a, b⟩]) rfl (fun h => by cases h) rfl (fun a ha => by cases ha; rw [rc_one]; exact hnew) (rc_onecell _) (by unfold maxLen; omega) (by omega) ?_; intro v' w3 hown3 hgr; obtain ⟨ao3, cap3, rfl, _, _⟩ := Sq.slice hown3; have hg3 := (hgr.block (lt_of_block HGA.out.1) HGA.out.2).trans HGA.out.1; have f3 := frozen_of_row w3 g 1 _ 43 hg3; have c3 := cell_of_row w3 g 1 _ 43 _ hg3)
    have hlen : (q ++ [(⟨a, b⟩ : R2)]).length = q.length + 1 := by rw [List.length_append]; rfl
    obtain ⟨F', hc3, hm3⟩ := HGR.out _ w3 (by unfold Told; rw [hlen, rc_append]; exact hown3) hgr
    have HC3 := Lib.hid hc3
    have HM3 := Lib.hid hm3
    clear hc3 hm3 hgr hown3 hown hnew HGR HGA hg3 f3 c3 c1
    generalize (w3.setCell ⟨g, 1, none⟩ (.slice ao3 (q.length + 1) cap3)) = w4 at *
    refine (rcount_any g bi F' f _ a b w4 HM3.out).mono ?_
    rintro e w5 ⟨rfl, rfl⟩
    have hcl : cq f a b 65536 ≤ 65536 := cq_le f a b 65536
    have HRC : RowKit.Hid (rcnt f a b = (cq f a b 65536 : Nat)) := Lib.hid rfl
    clear hlen
    have hs2 : IntKind.i64.wrap (b - a) = b - a := by rw [IntKind.wrap_i64]; omega
    generalize cq f a b 65536 = c at *
    have hs1 : IntKind.i64.wrap (b - a - (c : Int)) = b - a - (c : Int) := by rw [IntKind.wrap_i64]; omega
    go_wp2_with fail
    refine bodyPost_ret (results_tmp2 rfl _ _ _) rfl ⟨by rw [HA.out.1, HRC.out, HW.out]; rfl, F', HC3.out, by rw [HA.out.2]; exact HM3.out⟩
  · have HA := Lib.hid (And.intro (show raskn f a b = 0 from if_neg hw) (show askq q a b = q from if_neg hw))
    have HW := Lib.hid (wrg_no hw)
    rw [wrg_no hw]
    clear hw
    go_wp2_with fail
    refine bodyPost_ret (results_tmp2 rfl _ _ _) rfl ⟨by rw [HA.out.1, HW.out]; rfl, F, Chg.refl _ _, by rw [HA.out.2]; exact HM.out⟩

end Go.Proofs.Ytnakmjajpfilgaa
