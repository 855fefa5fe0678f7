/- Parts of the proofs of layer 19 (radix): contracts of its functions, and the laws' walks. -/
import Derived.Test.YtdnnfoojdfmajaaProg
import Derived.WalkKit
import Derived.WalkSpells
import Derived.WalkLawsBesides
import Derived.BigQuiet
import Derived.Deep.QuietTactic
import Derived.Lib.Hide
import Derived.Deep.RegionHeld3
import Derived.Deep.DeepCutAuto
import Derived.KernelRfl
import Derived.Deep.OwnRows
import Derived.Laws.CopyOwn
import Derived.Laws.CopyRow
import Derived.StillTailTactics
import Derived.Deep.RegionLaw
import Derived.Handy
import Derived.Deep.CutRange
import Derived.Deep.CutBlock
import Derived.Test.YtdnnfoojdfmajaaA6
import Derived.OwnWalk
namespace Go.Proofs.Ytdnnfoojdfmajaa
open Go.RowKit
set_option linter.unusedVariables false
set_option linter.unusedSimpArgs false

theorem rc_set {L : List X} {i j : Nat} {u : Value} {x y : X} (hi : L[i]? = some x) (hj : j < 6) (he : (cs x).set j u = cs y) : (rc L).set (i * 6 + j) u = rc (L.set i y) := flat_set cs 6 cs_length j u hj x y he.symm L i hi
theorem told_cells {w : World} {b cap : Nat} {L : List X} (h : Told w (.slice (some ⟨b, 0, none⟩) L.length cap) L) : ∀ (j : Nat) (u : Value), (rc L)[j]? = some u → w.cell? ((⟨b, 0, none⟩ : Addr).add j) = some u := fun j u hj => by
  rcases Sq.cases h with ⟨hv, h0⟩ | ⟨b', cap', hv, h1, h2, hb, hcell, hf⟩
  · cases hv
  · cases hv
    rw [Addr.add_lit, Nat.zero_add]
    exact hcell j u hj
theorem Rt.copied {w2 : World} {r : Nat} {G : List Nat} {L : List X} (h : Rt w2 r G L) (hl : L ≠ []) (vq : Value) (wq : World) (hown : Sq wq 40 6 vq (0 + L.length) ([] ++ rc L)) (hgr : Chg (vblk (.slice (some ⟨w2.heap.size, 0, none⟩) 0 0)) (vblk vq) (w2.alloc (.cells #[] 40)) wq) :
    (∃ bq cq, vq = .slice (some ⟨bq, 0, none⟩) L.length cq) ∧ Rt (wq.setCell ⟨r, 0, none⟩ vq) r (r :: vblk vq) L ∧ Chg G (r :: vblk vq) w2 (wq.setCell ⟨r, 0, none⟩ vq) ∧ wq.cell? ⟨r, 0, none⟩ = w2.cell? ⟨r, 0, none⟩ ∧ wq.frozen? ⟨r, 0, none⟩ = false := by
  rw [Nat.zero_add, List.nil_append] at hown
  have hT : Told wq vq L := hown
  have h1 : Chg [] [w2.heap.size] w2 (w2.alloc (.cells #[] 40)) := by
    obtain ⟨a1, a2, a3, a4, a5, a6⟩ := Chg.of_below (F := []) ((Below.refl w2.heap.size w2).alloc (Nat.le_refl _) (.cells #[] 40))
    exact ⟨a1, a2, a3, a4, a5, fun b hb => .inr (by simp at hb; omega)⟩
  have h2 : Chg [] (vblk vq) w2 wq := h1.trans (by rw [vblk_some] at hgr; exact hgr)
  obtain ⟨b1, b2, b3, b4⟩ := h.set h2 hT
  obtain ⟨bq, cq, e, _⟩ := hT.read hl
  exact ⟨⟨bq, cq, e⟩, b1, b2, b3, b4⟩
theorem Rt.put1 {w : World} {r b cap j : Nat} {u : Value} {G : List Nat} {L L' : List X} (h : Rt w r G L) (hv : w.cell? ⟨r, 0, none⟩ = some (.slice (some ⟨b, 0, none⟩) L.length cap)) (hl : L'.length = L.length) (he : (rc L).set j u = rc L') :
    Rt (w.setCell ⟨b, j, none⟩ u) r G L' ∧ Chg G G w (w.setCell ⟨b, j, none⟩ u) := by
  obtain ⟨ao, cap', c0, hT, hn, rfl, hg⟩ := h.cells
  rw [hv] at c0
  cases c0
  have hbm : b ∈ r :: vblk (.slice (some ⟨b, 0, none⟩) L.length cap) := by rw [vblk_some]; simp
  refine ⟨⟨.slice (some ⟨b, 0, none⟩) L.length cap, ?_, ?_, rfl, hn⟩, (Chg.refl _ w).setCell b j u hbm⟩
  · refine (Below.heap_setCell _ _ _ _ (fun e => hn ?_)).trans hg
    rw [vblk_some]
    simp at e
    simp [e]
  · have := Sq.stored hT j u
    rw [he] at this
    unfold Told
    rw [hl]
    exact this
set_option maxRecDepth 100000 in
set_option maxHeartbeats 8000000 in
theorem one_chg (page o v mark : Int) (on : Bool) (t r : Nat) (σ : St) (L : List X) (F G : List Nat) (w : World) (h : Tw w t r σ L F G) : Calls Try.prog 40 #[.pointer (some ⟨t, 0, none⟩), .pointer (some ⟨r, 0, none⟩), .agg #[.int .i64 4, .int .i64 page, .int .i64 o, .int .i64 v, .int .i64 mark, .bool on]] w fun e w' => OneOk w t r L F G page e w' := by
  obtain ⟨fi, fc, hF, hfi⟩ := find_gen page r L h.gd
  have HFI := Lib.hid hfi
  clear hfi
  rcases hF with ⟨h1, rfl, rfl⟩ | ⟨g, rfl, hg4, hn, rfl, rfl⟩ | ⟨g, i, x, rfl, hg4, hi, hc, rfl, rfl⟩
  · have HP := Lib.hid (PDo.of (t := t) h.ab fun w F _ => Change_out page v t w h1)
    clear h1
    have hz := heap_alloc_new w (.cells #[.int .i64 4, .int .i64 page, .int .i64 o, .int .i64 v, .int .i64 mark, .bool on] 52)
    have hA : Below w.heap.size w (w.alloc (.cells #[.int .i64 4, .int .i64 page, .int .i64 o, .int .i64 v, .int .i64 mark, .bool on] 52)) := (Below.refl _ _).alloc (Nat.le_refl _) _
    have x0 : (w.alloc (.cells #[.int .i64 4, .int .i64 page, .int .i64 o, .int .i64 v, .int .i64 mark, .bool on] 52)).cell? ⟨w.heap.size, 0, none⟩ = some (.int .i64 4) := cell_of_row _ _ 0 _ 52 _ hz
    have x1 : (w.alloc (.cells #[.int .i64 4, .int .i64 page, .int .i64 o, .int .i64 v, .int .i64 mark, .bool on] 52)).cell? ⟨w.heap.size, 1, none⟩ = some (.int .i64 page) := cell_of_row _ _ 1 _ 52 _ hz
    have x2 : (w.alloc (.cells #[.int .i64 4, .int .i64 page, .int .i64 o, .int .i64 v, .int .i64 mark, .bool on] 52)).cell? ⟨w.heap.size, 2, none⟩ = some (.int .i64 o) := cell_of_row _ _ 2 _ 52 _ hz
    have x3 : (w.alloc (.cells #[.int .i64 4, .int .i64 page, .int .i64 o, .int .i64 v, .int .i64 mark, .bool on] 52)).cell? ⟨w.heap.size, 3, none⟩ = some (.int .i64 v) := cell_of_row _ _ 3 _ 52 _ hz
    have x4 : (w.alloc (.cells #[.int .i64 4, .int .i64 page, .int .i64 o, .int .i64 v, .int .i64 mark, .bool on] 52)).cell? ⟨w.heap.size, 4, none⟩ = some (.int .i64 mark) := cell_of_row _ _ 4 _ 52 _ hz
    have x5 : (w.alloc (.cells #[.int .i64 4, .int .i64 page, .int .i64 o, .int .i64 v, .int .i64 mark, .bool on] 52)).cell? ⟨w.heap.size, 5, none⟩ = some (.bool on) := cell_of_row _ _ 5 _ 52 _ hz
    have HB0 := Lib.hid (And.intro hA (And.intro (lt_of_block hz) (And.intro (fun hm => Nat.lt_irrefl _ (h.hp.lt _ hm) : w.heap.size ∉ F) (fun hm => Nat.lt_irrefl _ (h.rt.lt _ hm) : w.heap.size ∉ G))))
    have HT0 := Lib.hid (h.below hA)
    have HX := Lib.hid (And.intro x0 (And.intro x1 (And.intro x2 (And.intro x3 (And.intro x4 x5)))))
    clear hz hA h x2 x3 x4 x5
    go_enter Try.func40, Try.ntmps40
    go_upto_region 1 with fail
    generalize hD : w.heap.size = D at *
    have HD := Lib.hid hD
    clear hD
    generalize w.alloc (.cells #[.int .i64 4, .int .i64 page, .int .i64 o, .int .i64 v, .int .i64 mark, .bool on] 52) = w1 at *
    go_upto_region 2 with (go_at_call 35; refine (HFI.out w1 G HT0.out.rt).mono ?_; rintro e w2 ⟨rfl, hb⟩)
    have HB := Lib.hid (And.intro (HB0.out.1.trans (hb.mono (by have := HB0.out.1.size; have := HD.out; omega))) (And.intro (Nat.lt_of_lt_of_le HB0.out.2.1 hb.size) HB0.out.2.2))
    have HT := Lib.hid (HT0.out.below hb)
    have x0 := cell_keep hb HX.out.1
    have x1 := cell_keep hb HX.out.2.1
    have x2 := cell_keep hb HX.out.2.2.1
    have x3 := cell_keep hb HX.out.2.2.2.1
    have x4 := cell_keep hb HX.out.2.2.2.2.1
    have x5 := cell_keep hb HX.out.2.2.2.2.2
    clear hb HX HT0 HB0
    go_wp2_with (go_at_call 27; refine (HP.out _ F HT.out.hp).mono ?_; rintro e wa ⟨rfl, F1, σ1, hca, hka, haba⟩)
    go_ret
    obtain ⟨a1, a2⟩ := HT.out.fin hca hka haba HT.out.gd (Chg.refl _ _) (HT.out.rt.chg hca HT.out.sep.symm)
    exact ⟨rfl, σ1, L, F1, G, a1, (Chg.of_below (by rw [HD.out]; exact HB.out.1)).trans a2, Kept.refl _ _⟩
  · have HP := Lib.hid (chg_nf (t := t) (v := v) h.ab h.gd hg4 hn)
    clear hn
    have hz := heap_alloc_new w (.cells #[.int .i64 4, .int .i64 ((g : Nat) : Int), .int .i64 o, .int .i64 v, .int .i64 mark, .bool on] 52)
    have hA : Below w.heap.size w (w.alloc (.cells #[.int .i64 4, .int .i64 ((g : Nat) : Int), .int .i64 o, .int .i64 v, .int .i64 mark, .bool on] 52)) := (Below.refl _ _).alloc (Nat.le_refl _) _
    have x0 : (w.alloc (.cells #[.int .i64 4, .int .i64 ((g : Nat) : Int), .int .i64 o, .int .i64 v, .int .i64 mark, .bool on] 52)).cell? ⟨w.heap.size, 0, none⟩ = some (.int .i64 4) := cell_of_row _ _ 0 _ 52 _ hz
    have x1 : (w.alloc (.cells #[.int .i64 4, .int .i64 ((g : Nat) : Int), .int .i64 o, .int .i64 v, .int .i64 mark, .bool on] 52)).cell? ⟨w.heap.size, 1, none⟩ = some (.int .i64 ((g : Nat) : Int)) := cell_of_row _ _ 1 _ 52 _ hz
    have x2 : (w.alloc (.cells #[.int .i64 4, .int .i64 ((g : Nat) : Int), .int .i64 o, .int .i64 v, .int .i64 mark, .bool on] 52)).cell? ⟨w.heap.size, 2, none⟩ = some (.int .i64 o) := cell_of_row _ _ 2 _ 52 _ hz
    have x3 : (w.alloc (.cells #[.int .i64 4, .int .i64 ((g : Nat) : Int), .int .i64 o, .int .i64 v, .int .i64 mark, .bool on] 52)).cell? ⟨w.heap.size, 3, none⟩ = some (.int .i64 v) := cell_of_row _ _ 3 _ 52 _ hz
    have x4 : (w.alloc (.cells #[.int .i64 4, .int .i64 ((g : Nat) : Int), .int .i64 o, .int .i64 v, .int .i64 mark, .bool on] 52)).cell? ⟨w.heap.size, 4, none⟩ = some (.int .i64 mark) := cell_of_row _ _ 4 _ 52 _ hz
    have x5 : (w.alloc (.cells #[.int .i64 4, .int .i64 ((g : Nat) : Int), .int .i64 o, .int .i64 v, .int .i64 mark, .bool on] 52)).cell? ⟨w.heap.size, 5, none⟩ = some (.bool on) := cell_of_row _ _ 5 _ 52 _ hz
    have HB0 := Lib.hid (And.intro hA (And.intro (lt_of_block hz) (And.intro (fun hm => Nat.lt_irrefl _ (h.hp.lt _ hm) : w.heap.size ∉ F) (fun hm => Nat.lt_irrefl _ (h.rt.lt _ hm) : w.heap.size ∉ G))))
    have HT0 := Lib.hid (h.below hA)
    have HX := Lib.hid (And.intro x0 (And.intro x1 (And.intro x2 (And.intro x3 (And.intro x4 x5)))))
    clear hz hA h x2 x3 x4 x5
    go_enter Try.func40, Try.ntmps40
    go_upto_region 1 with fail
    generalize hD : w.heap.size = D at *
    have HD := Lib.hid hD
    clear hD
    generalize w.alloc (.cells #[.int .i64 4, .int .i64 ((g : Nat) : Int), .int .i64 o, .int .i64 v, .int .i64 mark, .bool on] 52) = w1 at *
    go_upto_region 2 with (go_at_call 35; refine (HFI.out w1 G HT0.out.rt).mono ?_; rintro e w2 ⟨rfl, hb⟩)
    have HB := Lib.hid (And.intro (HB0.out.1.trans (hb.mono (by have := HB0.out.1.size; have := HD.out; omega))) (And.intro (Nat.lt_of_lt_of_le HB0.out.2.1 hb.size) HB0.out.2.2))
    have HT := Lib.hid (HT0.out.below hb)
    have x0 := cell_keep hb HX.out.1
    have x1 := cell_keep hb HX.out.2.1
    have x2 := cell_keep hb HX.out.2.2.1
    have x3 := cell_keep hb HX.out.2.2.2.1
    have x4 := cell_keep hb HX.out.2.2.2.2.1
    have x5 := cell_keep hb HX.out.2.2.2.2.2
    clear hb HX HT0 HB0
    go_wp2_with (go_at_call 27; refine (HP.out _ F HT.out.hp).mono ?_; rintro e wa ⟨rfl, F1, σ1, hca, hka, haba⟩)
    go_ret
    obtain ⟨a1, a2⟩ := HT.out.fin hca hka haba HT.out.gd (Chg.refl _ _) (HT.out.rt.chg hca HT.out.sep.symm)
    exact ⟨rfl, σ1, L, F1, G, a1, (Chg.of_below (by rw [HD.out]; exact HB.out.1)).trans a2, Kept.refl _ _⟩
  · by_cases hv : -1152921504606846976 ≤ v ∧ v ≤ 1152921504606846976
    · have HP := Lib.hid (chg_ok (t := t) h.ab h.gd hg4 hi hc hv)
      have HI := Lib.hid (fun W => within_any v W)
      simp only [decide_eq_true hv] at HI
      have HL := Lib.hid (And.intro hi (And.intro hc (And.intro (chg_good h.gd hi hv) (set_kept (y := wV x v) h.gd hi hc))))
      have hil : i < L.length := (List.getElem?_eq_some_iff.1 hi).1
      have hiI : ((i : Nat) : Int) < ((L.length : Nat) : Int) := by omega
      have hi0 : (0 : Int) ≤ ((i : Nat) : Int) := by omega
      clear hv hi hc hg4
      have hz := heap_alloc_new w (.cells #[.int .i64 4, .int .i64 ((g : Nat) : Int), .int .i64 o, .int .i64 v, .int .i64 mark, .bool on] 52)
      have hA : Below w.heap.size w (w.alloc (.cells #[.int .i64 4, .int .i64 ((g : Nat) : Int), .int .i64 o, .int .i64 v, .int .i64 mark, .bool on] 52)) := (Below.refl _ _).alloc (Nat.le_refl _) _
      have x0 : (w.alloc (.cells #[.int .i64 4, .int .i64 ((g : Nat) : Int), .int .i64 o, .int .i64 v, .int .i64 mark, .bool on] 52)).cell? ⟨w.heap.size, 0, none⟩ = some (.int .i64 4) := cell_of_row _ _ 0 _ 52 _ hz
      have x1 : (w.alloc (.cells #[.int .i64 4, .int .i64 ((g : Nat) : Int), .int .i64 o, .int .i64 v, .int .i64 mark, .bool on] 52)).cell? ⟨w.heap.size, 1, none⟩ = some (.int .i64 ((g : Nat) : Int)) := cell_of_row _ _ 1 _ 52 _ hz
      have x2 : (w.alloc (.cells #[.int .i64 4, .int .i64 ((g : Nat) : Int), .int .i64 o, .int .i64 v, .int .i64 mark, .bool on] 52)).cell? ⟨w.heap.size, 2, none⟩ = some (.int .i64 o) := cell_of_row _ _ 2 _ 52 _ hz
      have x3 : (w.alloc (.cells #[.int .i64 4, .int .i64 ((g : Nat) : Int), .int .i64 o, .int .i64 v, .int .i64 mark, .bool on] 52)).cell? ⟨w.heap.size, 3, none⟩ = some (.int .i64 v) := cell_of_row _ _ 3 _ 52 _ hz
      have x4 : (w.alloc (.cells #[.int .i64 4, .int .i64 ((g : Nat) : Int), .int .i64 o, .int .i64 v, .int .i64 mark, .bool on] 52)).cell? ⟨w.heap.size, 4, none⟩ = some (.int .i64 mark) := cell_of_row _ _ 4 _ 52 _ hz
      have x5 : (w.alloc (.cells #[.int .i64 4, .int .i64 ((g : Nat) : Int), .int .i64 o, .int .i64 v, .int .i64 mark, .bool on] 52)).cell? ⟨w.heap.size, 5, none⟩ = some (.bool on) := cell_of_row _ _ 5 _ 52 _ hz
      have HB0 := Lib.hid (And.intro hA (And.intro (lt_of_block hz) (And.intro (fun hm => Nat.lt_irrefl _ (h.hp.lt _ hm) : w.heap.size ∉ F) (fun hm => Nat.lt_irrefl _ (h.rt.lt _ hm) : w.heap.size ∉ G))))
      have HT0 := Lib.hid (h.below hA)
      have HX := Lib.hid (And.intro x0 (And.intro x1 (And.intro x2 (And.intro x3 (And.intro x4 x5)))))
      clear hz hA h x2 x3 x4 x5
      go_enter Try.func40, Try.ntmps40
      go_upto_region 1 with fail
      generalize hD : w.heap.size = D at *
      have HD := Lib.hid hD
      clear hD
      generalize w.alloc (.cells #[.int .i64 4, .int .i64 ((g : Nat) : Int), .int .i64 o, .int .i64 v, .int .i64 mark, .bool on] 52) = w1 at *
      go_upto_region 2 with (go_at_call 35; refine (HFI.out w1 G HT0.out.rt).mono ?_; rintro e w2 ⟨rfl, hb⟩)
      have HB := Lib.hid (And.intro (HB0.out.1.trans (hb.mono (by have := HB0.out.1.size; have := HD.out; omega))) (And.intro (Nat.lt_of_lt_of_le HB0.out.2.1 hb.size) HB0.out.2.2))
      have HT := Lib.hid (HT0.out.below hb)
      have x0 := cell_keep hb HX.out.1
      have x1 := cell_keep hb HX.out.2.1
      have x2 := cell_keep hb HX.out.2.2.1
      have x3 := cell_keep hb HX.out.2.2.2.1
      have x4 := cell_keep hb HX.out.2.2.2.2.1
      have x5 := cell_keep hb HX.out.2.2.2.2.2
      clear hb HX HT0 HB0
      have HXX := Lib.hid (And.intro x0 (And.intro x1 (And.intro x3 (And.intro x4 x5))))
      obtain ⟨ao, cap, c0, hT, hrn, hGe, hgr⟩ := HT.out.rt.cells
      obtain ⟨bl, cl2, hv', hnc, hcm, hbl, hcell, _⟩ := hT.read (ne_nil_of_lt hil)
      cases hv'
      have hA : Below w2.heap.size w2 (w2.alloc (.cells #[] 40)) := (Below.refl _ _).alloc (Nat.le_refl _) _
      have hE := Sq.lit w2 #[] 40 6 0 (by unfold maxLen; omega) rfl
      have hnew := told_cells (hT.below hA)
      have c0a := cell_keep hA c0
      have HGO := Lib.hid (fun vq wq hown hgr => HT.out.rt.copied (ne_nil_of_lt hil) vq wq hown hgr)
      have hlen : L.length ≤ 4096 := HT.out.gd.length
      clear hT hrn hGe hgr hbl hcell hA hnc hcm
      obtain ⟨i0, hi0, hz0, hz1, hz2⟩ := info_parts (show (Try.prog.info? 40).map (fun i => (i.zero, i.size, i.bytes)) = some (some (.agg #[.int .i64 0, .int .i64 0, .int .i64 0, .bool false, .bool false, .bool false]), 6, 32) by kernel_rfl)
      go_upto_region 12 with (first | (go_at_call 50; refine (HI.out _).mono ?_; rintro e w2' ⟨rfl, rfl⟩) | (at_builtin; refine wpList_append_any _ rfl (.tmp 64) (.tmp 68) 34 rfl 40 i0 (.agg #[.int .i64 0, .int .i64 0, .int .i64 0, .bool false, .bool false, .bool false]) 6 32 Try.underlying34 hi0 hz0 hz1 hz2 rfl (by decide) (.slice (some ⟨w2.heap.size, 0, none⟩) 0 0) 0 [] rfl hE (some ⟨bl, 0, none⟩) L.length cap (rc L) rfl (fun h => by cases h) (rc_length L) (fun a ha => by cases ha; exact hnew) (rc_onecell _) (by unfold maxLen; omega) (by omega) ?_; intro vq wq hownq hgrq; have HG0 := Lib.hid (HGO.out vq wq hownq hgrq); obtain ⟨bq, cq, rfl⟩ := HG0.out.1; have t3 := HG0.out.2.2.2.1.trans c0; have t4 := HG0.out.2.2.2.2; clear hownq hgrq))
      have HG := Lib.hid (And.intro HG0.out.2.1 HG0.out.2.2.1)
      clear HG0 HGO t3 t4 hE hnew x0 x1 x2 x3 x4 x5 c0 c0a
      generalize hW : wq.setCell ⟨r, 0, none⟩ (.slice (some ⟨bq, 0, none⟩) L.length cq) = w4 at *
      clear hW
      obtain ⟨ao, cap, c0, hT, _⟩ := HG.out.1.cells
      obtain ⟨bl2, cl3, hv', _, _, hbl, htl, hfz⟩ := hT.read (ne_nil_of_lt hil)
      cases hv'
      have HTL := Lib.hid htl
      have HDG := Lib.hid (HG.out.2.out HB.out.2.2.2 HB.out.2.1)
      clear htl
      have x0 := HG.out.2.cell HXX.out.1 HB.out.2.2.2
      have x1 := HG.out.2.cell HXX.out.2.1 HB.out.2.2.2
      have x3 := HG.out.2.cell HXX.out.2.2.1 HB.out.2.2.2
      have x4 := HG.out.2.cell HXX.out.2.2.2.1 HB.out.2.2.2
      have x5 := HG.out.2.cell HXX.out.2.2.2.2 HB.out.2.2.2
      have HC0 := Lib.hid c0
      have HXG := Lib.hid (And.intro x0 (And.intro x1 (And.intro x3 (And.intro x4 x5))))
      have HBL := Lib.hid hbl
      clear hT hbl
      have HPU0 := Rt.put1 HG.out.1 (L' := L.set i (wV x v)) HC0.out (List.length_set ..) (rc_set HL.out.1 (j := 2) (u := .int .i64 v) (by omega) rfl)
      have HPU := Lib.hid (And.intro HPU0.1.drew HPU0.2.drew)
      clear HPU0
      go_still_tail 9, (by kernel_rfl)
      change wpList _ _ _ _ _ (World.drew _)
      have hfz' : ∀ (j : Nat), w4.drew.frozen? ⟨bl2, j, none⟩ = false := hfz
      have he' : ∃ u, w4.drew.cell? ⟨bl2, i * 6 + 2, none⟩ = some u := ⟨_, (HTL.out i _ HL.out.1).2.2.1⟩
      obtain ⟨u, he'⟩ := he'
      clear x0 x1 x3 x4 x5 c0 hfz
      go_upto_region 13 with fail
      generalize (w4.setCell ⟨bl2, i * 6 + 2, none⟩ (.int .i64 v)).drew = w5 at *
      have x1 := HPU.out.2.cell (HXG.out.2.1) HDG.out
      have x3 := HPU.out.2.cell (HXG.out.2.2.1) HDG.out
      clear he' hfz'
      go_wp2_with (go_at_call 27; refine (HP.out w5 F (HT.out.hp.chg (HG.out.2.trans HPU.out.2) HT.out.sep)).mono ?_; rintro e wa ⟨rfl, F1, σ1, hca, hka, haba⟩)
      go_ret
      obtain ⟨a1, a2⟩ := HT.out.fin2 (HG.out.2.trans HPU.out.2) HPU.out.1 hca hka haba HL.out.2.2.1
      exact ⟨rfl, σ1, _, F1, _, a1, (Chg.of_below (by rw [HD.out]; exact HB.out.1)).trans a2, HL.out.2.2.2⟩
    · have HP := Lib.hid (chg_rng (t := t) h.ab h.gd hg4 hi hc hv)
      have HI := Lib.hid (fun W => within_any v W)
      simp only [decide_eq_false hv] at HI
      clear hv hi hc
      have hz := heap_alloc_new w (.cells #[.int .i64 4, .int .i64 ((g : Nat) : Int), .int .i64 o, .int .i64 v, .int .i64 mark, .bool on] 52)
      have hA : Below w.heap.size w (w.alloc (.cells #[.int .i64 4, .int .i64 ((g : Nat) : Int), .int .i64 o, .int .i64 v, .int .i64 mark, .bool on] 52)) := (Below.refl _ _).alloc (Nat.le_refl _) _
      have x0 : (w.alloc (.cells #[.int .i64 4, .int .i64 ((g : Nat) : Int), .int .i64 o, .int .i64 v, .int .i64 mark, .bool on] 52)).cell? ⟨w.heap.size, 0, none⟩ = some (.int .i64 4) := cell_of_row _ _ 0 _ 52 _ hz
      have x1 : (w.alloc (.cells #[.int .i64 4, .int .i64 ((g : Nat) : Int), .int .i64 o, .int .i64 v, .int .i64 mark, .bool on] 52)).cell? ⟨w.heap.size, 1, none⟩ = some (.int .i64 ((g : Nat) : Int)) := cell_of_row _ _ 1 _ 52 _ hz
      have x2 : (w.alloc (.cells #[.int .i64 4, .int .i64 ((g : Nat) : Int), .int .i64 o, .int .i64 v, .int .i64 mark, .bool on] 52)).cell? ⟨w.heap.size, 2, none⟩ = some (.int .i64 o) := cell_of_row _ _ 2 _ 52 _ hz
      have x3 : (w.alloc (.cells #[.int .i64 4, .int .i64 ((g : Nat) : Int), .int .i64 o, .int .i64 v, .int .i64 mark, .bool on] 52)).cell? ⟨w.heap.size, 3, none⟩ = some (.int .i64 v) := cell_of_row _ _ 3 _ 52 _ hz
      have x4 : (w.alloc (.cells #[.int .i64 4, .int .i64 ((g : Nat) : Int), .int .i64 o, .int .i64 v, .int .i64 mark, .bool on] 52)).cell? ⟨w.heap.size, 4, none⟩ = some (.int .i64 mark) := cell_of_row _ _ 4 _ 52 _ hz
      have x5 : (w.alloc (.cells #[.int .i64 4, .int .i64 ((g : Nat) : Int), .int .i64 o, .int .i64 v, .int .i64 mark, .bool on] 52)).cell? ⟨w.heap.size, 5, none⟩ = some (.bool on) := cell_of_row _ _ 5 _ 52 _ hz
      have HB0 := Lib.hid (And.intro hA (And.intro (lt_of_block hz) (And.intro (fun hm => Nat.lt_irrefl _ (h.hp.lt _ hm) : w.heap.size ∉ F) (fun hm => Nat.lt_irrefl _ (h.rt.lt _ hm) : w.heap.size ∉ G))))
      have HT0 := Lib.hid (h.below hA)
      have HX := Lib.hid (And.intro x0 (And.intro x1 (And.intro x2 (And.intro x3 (And.intro x4 x5)))))
      clear hz hA h x2 x3 x4 x5
      go_enter Try.func40, Try.ntmps40
      go_upto_region 1 with fail
      generalize hD : w.heap.size = D at *
      have HD := Lib.hid hD
      clear hD
      generalize w.alloc (.cells #[.int .i64 4, .int .i64 ((g : Nat) : Int), .int .i64 o, .int .i64 v, .int .i64 mark, .bool on] 52) = w1 at *
      go_upto_region 2 with (go_at_call 35; refine (HFI.out w1 G HT0.out.rt).mono ?_; rintro e w2 ⟨rfl, hb⟩)
      have HB := Lib.hid (And.intro (HB0.out.1.trans (hb.mono (by have := HB0.out.1.size; have := HD.out; omega))) (And.intro (Nat.lt_of_lt_of_le HB0.out.2.1 hb.size) HB0.out.2.2))
      have HT := Lib.hid (HT0.out.below hb)
      have x0 := cell_keep hb HX.out.1
      have x1 := cell_keep hb HX.out.2.1
      have x2 := cell_keep hb HX.out.2.2.1
      have x3 := cell_keep hb HX.out.2.2.2.1
      have x4 := cell_keep hb HX.out.2.2.2.2.1
      have x5 := cell_keep hb HX.out.2.2.2.2.2
      clear hb HX HT0 HB0
      go_wp2_with (first | (go_at_call 50; refine (HI.out _).mono ?_; rintro e w2' ⟨rfl, rfl⟩) | (go_at_call 27; refine (HP.out _ F HT.out.hp).mono ?_; rintro e wa ⟨rfl, F1, σ1, hca, hka, haba⟩))
      go_ret
      obtain ⟨a1, a2⟩ := HT.out.fin hca hka haba HT.out.gd (Chg.refl _ _) (HT.out.rt.chg hca HT.out.sep.symm)
      exact ⟨rfl, σ1, L, F1, G, a1, (Chg.of_below (by rw [HD.out]; exact HB.out.1)).trans a2, Kept.refl _ _⟩


end Go.Proofs.Ytdnnfoojdfmajaa
