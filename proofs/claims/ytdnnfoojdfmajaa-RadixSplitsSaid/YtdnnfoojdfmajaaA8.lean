/- Parts of the proofs of layer 19 (radix): contracts of its functions, and the laws' walks. -/
import Derived.Test.YtdnnfoojdfmajaaProg
import Derived.WalkKit
import Derived.WalkSpells
import Derived.WalkLawsBesides
import Derived.BigQuiet
import Derived.Deep.QuietTactic
import Derived.Lib.Hide
import Derived.Deep.RegionHeld3
import Derived.Deep.DeepCutAuto
import Derived.KernelRfl
import Derived.Deep.OwnRows
import Derived.Laws.CopyOwn
import Derived.Laws.CopyRow
import Derived.StillTailTactics
import Derived.Deep.RegionLaw
import Derived.Handy
import Derived.Deep.CutRange
import Derived.Deep.CutBlock
import Derived.Test.YtdnnfoojdfmajaaA7
import Derived.OwnWalk
namespace Go.Proofs.Ytdnnfoojdfmajaa
open Go.RowKit
set_option linter.unusedVariables false
set_option linter.unusedSimpArgs false

theorem cs_mark (x : X) (on : Bool) {mk : Nat} (h : mk < 3) : (cs x).set (3 + mk) (.bool on) = cs (wM x mk on) := by
  rcases (show mk = 0 ∨ mk = 1 ∨ mk = 2 by omega) with rfl | rfl | rfl <;> rfl
set_option maxRecDepth 100000 in
set_option maxHeartbeats 16000000 in
theorem one_mark7 (page o v mark : Int) (on : Bool) (t r : Nat) (σ : St) (L : List X) (F G : List Nat) (w : World) (h : Tw w t r σ L F G) : Calls Try.prog 40 #[.pointer (some ⟨t, 0, none⟩), .pointer (some ⟨r, 0, none⟩), .agg #[.int .i64 7, .int .i64 page, .int .i64 o, .int .i64 v, .int .i64 mark, .bool on]] w fun e w' => OneOk w t r L F G page e w' := by
  obtain ⟨fi, fc, hF, hfi⟩ := find_gen page r L h.gd
  have HFI := Lib.hid hfi
  clear hfi
  by_cases hmk : 0 ≤ mark ∧ mark < 3
  · obtain ⟨mk, rfl⟩ : ∃ mk : Nat, mark = (mk : Nat) := ⟨mark.toNat, by omega⟩
    have hmk3 : mk < 3 := by omega
    have c1 : ¬ (((mk : Nat) : Int) < 0) := by omega
    have c2 : ¬ ((2 : Int) < ((mk : Nat) : Int)) := by omega
    rcases hF with ⟨h1, rfl, rfl⟩ | ⟨g, rfl, hg4, hn, rfl, rfl⟩ | ⟨g, i, x, rfl, hg4, hi, hc, rfl, rfl⟩
    · have HP := Lib.hid (PDo.of (t := t) h.ab fun w F _ => Mark_out page (mk : Nat) on t w hmk h1)
      clear h1 hmk hmk3
      have hz := heap_alloc_new w (.cells #[.int .i64 7, .int .i64 page, .int .i64 o, .int .i64 v, .int .i64 ((mk : Nat) : Int), .bool on] 52)
      have hA : Below w.heap.size w (w.alloc (.cells #[.int .i64 7, .int .i64 page, .int .i64 o, .int .i64 v, .int .i64 ((mk : Nat) : Int), .bool on] 52)) := (Below.refl _ _).alloc (Nat.le_refl _) _
      have x0 : (w.alloc (.cells #[.int .i64 7, .int .i64 page, .int .i64 o, .int .i64 v, .int .i64 ((mk : Nat) : Int), .bool on] 52)).cell? ⟨w.heap.size, 0, none⟩ = some (.int .i64 7) := cell_of_row _ _ 0 _ 52 _ hz
      have x1 : (w.alloc (.cells #[.int .i64 7, .int .i64 page, .int .i64 o, .int .i64 v, .int .i64 ((mk : Nat) : Int), .bool on] 52)).cell? ⟨w.heap.size, 1, none⟩ = some (.int .i64 page) := cell_of_row _ _ 1 _ 52 _ hz
      have x2 : (w.alloc (.cells #[.int .i64 7, .int .i64 page, .int .i64 o, .int .i64 v, .int .i64 ((mk : Nat) : Int), .bool on] 52)).cell? ⟨w.heap.size, 2, none⟩ = some (.int .i64 o) := cell_of_row _ _ 2 _ 52 _ hz
      have x3 : (w.alloc (.cells #[.int .i64 7, .int .i64 page, .int .i64 o, .int .i64 v, .int .i64 ((mk : Nat) : Int), .bool on] 52)).cell? ⟨w.heap.size, 3, none⟩ = some (.int .i64 v) := cell_of_row _ _ 3 _ 52 _ hz
      have x4 : (w.alloc (.cells #[.int .i64 7, .int .i64 page, .int .i64 o, .int .i64 v, .int .i64 ((mk : Nat) : Int), .bool on] 52)).cell? ⟨w.heap.size, 4, none⟩ = some (.int .i64 ((mk : Nat) : Int)) := cell_of_row _ _ 4 _ 52 _ hz
      have x5 : (w.alloc (.cells #[.int .i64 7, .int .i64 page, .int .i64 o, .int .i64 v, .int .i64 ((mk : Nat) : Int), .bool on] 52)).cell? ⟨w.heap.size, 5, none⟩ = some (.bool on) := cell_of_row _ _ 5 _ 52 _ hz
      have HB0 := Lib.hid (And.intro hA (And.intro (lt_of_block hz) (And.intro (fun hm => Nat.lt_irrefl _ (h.hp.lt _ hm) : w.heap.size ∉ F) (fun hm => Nat.lt_irrefl _ (h.rt.lt _ hm) : w.heap.size ∉ G))))
      have HT0 := Lib.hid (h.below hA)
      have HX := Lib.hid (And.intro x0 (And.intro x1 (And.intro x2 (And.intro x3 (And.intro x4 x5)))))
      clear hz hA h x2 x3 x4 x5
      go_enter Try.func40, Try.ntmps40
      go_upto_region 1 with fail
      generalize hD : w.heap.size = D at *
      have HD := Lib.hid hD
      clear hD
      generalize w.alloc (.cells #[.int .i64 7, .int .i64 page, .int .i64 o, .int .i64 v, .int .i64 ((mk : Nat) : Int), .bool on] 52) = w1 at *
      go_upto_region 2 with (go_at_call 35; refine (HFI.out w1 G HT0.out.rt).mono ?_; rintro e w2 ⟨rfl, hb⟩)
      have HB := Lib.hid (And.intro (HB0.out.1.trans (hb.mono (by have := HB0.out.1.size; have := HD.out; omega))) (And.intro (Nat.lt_of_lt_of_le HB0.out.2.1 hb.size) HB0.out.2.2))
      have HT := Lib.hid (HT0.out.below hb)
      have x0 := cell_keep hb HX.out.1
      have x1 := cell_keep hb HX.out.2.1
      have x2 := cell_keep hb HX.out.2.2.1
      have x3 := cell_keep hb HX.out.2.2.2.1
      have x4 := cell_keep hb HX.out.2.2.2.2.1
      have x5 := cell_keep hb HX.out.2.2.2.2.2
      clear hb HX HT0 HB0
      go_wp2_with (go_at_call 28; refine (HP.out _ F HT.out.hp).mono ?_; rintro e wa ⟨rfl, F1, σ1, hca, hka, haba⟩)
      go_ret
      obtain ⟨a1, a2⟩ := HT.out.fin hca hka haba HT.out.gd (Chg.refl _ _) (HT.out.rt.chg hca HT.out.sep.symm)
      exact ⟨rfl, σ1, L, F1, G, a1, (Chg.of_below (by rw [HD.out]; exact HB.out.1)).trans a2, Kept.refl _ _⟩
    · have HP := Lib.hid (PDo.of (t := t) h.ab fun w F hp => Mark_nf g t (mk : Nat) on σ _ _ F w hg4 hp hmk (h.ab.nf h.gd hg4 hn))
      clear hn hmk hmk3
      have hz := heap_alloc_new w (.cells #[.int .i64 7, .int .i64 ((g : Nat) : Int), .int .i64 o, .int .i64 v, .int .i64 ((mk : Nat) : Int), .bool on] 52)
      have hA : Below w.heap.size w (w.alloc (.cells #[.int .i64 7, .int .i64 ((g : Nat) : Int), .int .i64 o, .int .i64 v, .int .i64 ((mk : Nat) : Int), .bool on] 52)) := (Below.refl _ _).alloc (Nat.le_refl _) _
      have x0 : (w.alloc (.cells #[.int .i64 7, .int .i64 ((g : Nat) : Int), .int .i64 o, .int .i64 v, .int .i64 ((mk : Nat) : Int), .bool on] 52)).cell? ⟨w.heap.size, 0, none⟩ = some (.int .i64 7) := cell_of_row _ _ 0 _ 52 _ hz
      have x1 : (w.alloc (.cells #[.int .i64 7, .int .i64 ((g : Nat) : Int), .int .i64 o, .int .i64 v, .int .i64 ((mk : Nat) : Int), .bool on] 52)).cell? ⟨w.heap.size, 1, none⟩ = some (.int .i64 ((g : Nat) : Int)) := cell_of_row _ _ 1 _ 52 _ hz
      have x2 : (w.alloc (.cells #[.int .i64 7, .int .i64 ((g : Nat) : Int), .int .i64 o, .int .i64 v, .int .i64 ((mk : Nat) : Int), .bool on] 52)).cell? ⟨w.heap.size, 2, none⟩ = some (.int .i64 o) := cell_of_row _ _ 2 _ 52 _ hz
      have x3 : (w.alloc (.cells #[.int .i64 7, .int .i64 ((g : Nat) : Int), .int .i64 o, .int .i64 v, .int .i64 ((mk : Nat) : Int), .bool on] 52)).cell? ⟨w.heap.size, 3, none⟩ = some (.int .i64 v) := cell_of_row _ _ 3 _ 52 _ hz
      have x4 : (w.alloc (.cells #[.int .i64 7, .int .i64 ((g : Nat) : Int), .int .i64 o, .int .i64 v, .int .i64 ((mk : Nat) : Int), .bool on] 52)).cell? ⟨w.heap.size, 4, none⟩ = some (.int .i64 ((mk : Nat) : Int)) := cell_of_row _ _ 4 _ 52 _ hz
      have x5 : (w.alloc (.cells #[.int .i64 7, .int .i64 ((g : Nat) : Int), .int .i64 o, .int .i64 v, .int .i64 ((mk : Nat) : Int), .bool on] 52)).cell? ⟨w.heap.size, 5, none⟩ = some (.bool on) := cell_of_row _ _ 5 _ 52 _ hz
      have HB0 := Lib.hid (And.intro hA (And.intro (lt_of_block hz) (And.intro (fun hm => Nat.lt_irrefl _ (h.hp.lt _ hm) : w.heap.size ∉ F) (fun hm => Nat.lt_irrefl _ (h.rt.lt _ hm) : w.heap.size ∉ G))))
      have HT0 := Lib.hid (h.below hA)
      have HX := Lib.hid (And.intro x0 (And.intro x1 (And.intro x2 (And.intro x3 (And.intro x4 x5)))))
      clear hz hA h x2 x3 x4 x5
      go_enter Try.func40, Try.ntmps40
      go_upto_region 1 with fail
      generalize hD : w.heap.size = D at *
      have HD := Lib.hid hD
      clear hD
      generalize w.alloc (.cells #[.int .i64 7, .int .i64 ((g : Nat) : Int), .int .i64 o, .int .i64 v, .int .i64 ((mk : Nat) : Int), .bool on] 52) = w1 at *
      go_upto_region 2 with (go_at_call 35; refine (HFI.out w1 G HT0.out.rt).mono ?_; rintro e w2 ⟨rfl, hb⟩)
      have HB := Lib.hid (And.intro (HB0.out.1.trans (hb.mono (by have := HB0.out.1.size; have := HD.out; omega))) (And.intro (Nat.lt_of_lt_of_le HB0.out.2.1 hb.size) HB0.out.2.2))
      have HT := Lib.hid (HT0.out.below hb)
      have x0 := cell_keep hb HX.out.1
      have x1 := cell_keep hb HX.out.2.1
      have x2 := cell_keep hb HX.out.2.2.1
      have x3 := cell_keep hb HX.out.2.2.2.1
      have x4 := cell_keep hb HX.out.2.2.2.2.1
      have x5 := cell_keep hb HX.out.2.2.2.2.2
      clear hb HX HT0 HB0
      go_wp2_with (go_at_call 28; refine (HP.out _ F HT.out.hp).mono ?_; rintro e wa ⟨rfl, F1, σ1, hca, hka, haba⟩)
      go_ret
      obtain ⟨a1, a2⟩ := HT.out.fin hca hka haba HT.out.gd (Chg.refl _ _) (HT.out.rt.chg hca HT.out.sep.symm)
      exact ⟨rfl, σ1, L, F1, G, a1, (Chg.of_below (by rw [HD.out]; exact HB.out.1)).trans a2, Kept.refl _ _⟩
    · have HP := Lib.hid (mark_ok (t := t) (on := on) h.ab h.gd hg4 hi hc hmk3)
      have HL := Lib.hid (And.intro hi (And.intro hc (And.intro (mark_good (mk := mk) (on := on) h.gd hi) (set_kept (y := wM x mk on) h.gd hi hc))))
      have HM3 := Lib.hid hmk3
      have hil : i < L.length := (List.getElem?_eq_some_iff.1 hi).1
      have hiI : ((i : Nat) : Int) < ((L.length : Nat) : Int) := by omega
      have hi0 : (0 : Int) ≤ ((i : Nat) : Int) := by omega
      clear hi hc hg4 hmk
      have hz := heap_alloc_new w (.cells #[.int .i64 7, .int .i64 ((g : Nat) : Int), .int .i64 o, .int .i64 v, .int .i64 ((mk : Nat) : Int), .bool on] 52)
      have hA : Below w.heap.size w (w.alloc (.cells #[.int .i64 7, .int .i64 ((g : Nat) : Int), .int .i64 o, .int .i64 v, .int .i64 ((mk : Nat) : Int), .bool on] 52)) := (Below.refl _ _).alloc (Nat.le_refl _) _
      have x0 : (w.alloc (.cells #[.int .i64 7, .int .i64 ((g : Nat) : Int), .int .i64 o, .int .i64 v, .int .i64 ((mk : Nat) : Int), .bool on] 52)).cell? ⟨w.heap.size, 0, none⟩ = some (.int .i64 7) := cell_of_row _ _ 0 _ 52 _ hz
      have x1 : (w.alloc (.cells #[.int .i64 7, .int .i64 ((g : Nat) : Int), .int .i64 o, .int .i64 v, .int .i64 ((mk : Nat) : Int), .bool on] 52)).cell? ⟨w.heap.size, 1, none⟩ = some (.int .i64 ((g : Nat) : Int)) := cell_of_row _ _ 1 _ 52 _ hz
      have x2 : (w.alloc (.cells #[.int .i64 7, .int .i64 ((g : Nat) : Int), .int .i64 o, .int .i64 v, .int .i64 ((mk : Nat) : Int), .bool on] 52)).cell? ⟨w.heap.size, 2, none⟩ = some (.int .i64 o) := cell_of_row _ _ 2 _ 52 _ hz
      have x3 : (w.alloc (.cells #[.int .i64 7, .int .i64 ((g : Nat) : Int), .int .i64 o, .int .i64 v, .int .i64 ((mk : Nat) : Int), .bool on] 52)).cell? ⟨w.heap.size, 3, none⟩ = some (.int .i64 v) := cell_of_row _ _ 3 _ 52 _ hz
      have x4 : (w.alloc (.cells #[.int .i64 7, .int .i64 ((g : Nat) : Int), .int .i64 o, .int .i64 v, .int .i64 ((mk : Nat) : Int), .bool on] 52)).cell? ⟨w.heap.size, 4, none⟩ = some (.int .i64 ((mk : Nat) : Int)) := cell_of_row _ _ 4 _ 52 _ hz
      have x5 : (w.alloc (.cells #[.int .i64 7, .int .i64 ((g : Nat) : Int), .int .i64 o, .int .i64 v, .int .i64 ((mk : Nat) : Int), .bool on] 52)).cell? ⟨w.heap.size, 5, none⟩ = some (.bool on) := cell_of_row _ _ 5 _ 52 _ hz
      have HB0 := Lib.hid (And.intro hA (And.intro (lt_of_block hz) (And.intro (fun hm => Nat.lt_irrefl _ (h.hp.lt _ hm) : w.heap.size ∉ F) (fun hm => Nat.lt_irrefl _ (h.rt.lt _ hm) : w.heap.size ∉ G))))
      have HT0 := Lib.hid (h.below hA)
      have HX := Lib.hid (And.intro x0 (And.intro x1 (And.intro x2 (And.intro x3 (And.intro x4 x5)))))
      clear hz hA h x2 x3 x4 x5
      go_enter Try.func40, Try.ntmps40
      go_upto_region 1 with fail
      generalize hD : w.heap.size = D at *
      have HD := Lib.hid hD
      clear hD
      generalize w.alloc (.cells #[.int .i64 7, .int .i64 ((g : Nat) : Int), .int .i64 o, .int .i64 v, .int .i64 ((mk : Nat) : Int), .bool on] 52) = w1 at *
      go_upto_region 2 with (go_at_call 35; refine (HFI.out w1 G HT0.out.rt).mono ?_; rintro e w2 ⟨rfl, hb⟩)
      have HB := Lib.hid (And.intro (HB0.out.1.trans (hb.mono (by have := HB0.out.1.size; have := HD.out; omega))) (And.intro (Nat.lt_of_lt_of_le HB0.out.2.1 hb.size) HB0.out.2.2))
      have HT := Lib.hid (HT0.out.below hb)
      have x0 := cell_keep hb HX.out.1
      have x1 := cell_keep hb HX.out.2.1
      have x2 := cell_keep hb HX.out.2.2.1
      have x3 := cell_keep hb HX.out.2.2.2.1
      have x4 := cell_keep hb HX.out.2.2.2.2.1
      have x5 := cell_keep hb HX.out.2.2.2.2.2
      clear hb HX HT0 HB0
      have HXX := Lib.hid (And.intro x0 (And.intro x1 (And.intro x3 (And.intro x4 x5))))
      obtain ⟨ao, cap, c0, hT, hrn, hGe, hgr⟩ := HT.out.rt.cells
      obtain ⟨bl, cl2, hv', hnc, hcm, hbl, hcell, _⟩ := hT.read (ne_nil_of_lt hil)
      cases hv'
      have hA : Below w2.heap.size w2 (w2.alloc (.cells #[] 40)) := (Below.refl _ _).alloc (Nat.le_refl _) _
      have hE := Sq.lit w2 #[] 40 6 0 (by unfold maxLen; omega) rfl
      have hnew := told_cells (hT.below hA)
      have c0a := cell_keep hA c0
      have HGO := Lib.hid (fun vq wq hown hgr => HT.out.rt.copied (ne_nil_of_lt hil) vq wq hown hgr)
      have hlen : L.length ≤ 4096 := HT.out.gd.length
      clear hT hrn hGe hgr hbl hcell hA hnc hcm
      obtain ⟨i0, hi0, hz0, hz1, hz2⟩ := info_parts (show (Try.prog.info? 40).map (fun i => (i.zero, i.size, i.bytes)) = some (some (.agg #[.int .i64 0, .int .i64 0, .int .i64 0, .bool false, .bool false, .bool false]), 6, 32) by kernel_rfl)
      go_upto_region 25 with (first | (go_at_call 50; refine (HI.out _).mono ?_; rintro e w2' ⟨rfl, rfl⟩) | (at_builtin; refine wpList_append_any _ rfl (.tmp 130) (.tmp 134) 34 rfl 40 i0 (.agg #[.int .i64 0, .int .i64 0, .int .i64 0, .bool false, .bool false, .bool false]) 6 32 Try.underlying34 hi0 hz0 hz1 hz2 rfl (by decide) (.slice (some ⟨w2.heap.size, 0, none⟩) 0 0) 0 [] rfl hE (some ⟨bl, 0, none⟩) L.length cap (rc L) rfl (fun h => by cases h) (rc_length L) (fun a ha => by cases ha; exact hnew) (rc_onecell _) (by unfold maxLen; omega) (by omega) ?_; intro vq wq hownq hgrq; have HG0 := Lib.hid (HGO.out vq wq hownq hgrq); obtain ⟨bq, cq, rfl⟩ := HG0.out.1; have t3 := HG0.out.2.2.2.1.trans c0; have t4 := HG0.out.2.2.2.2; clear hownq hgrq))
      have HG := Lib.hid (And.intro HG0.out.2.1 HG0.out.2.2.1)
      clear HG0 HGO t3 t4 hE hnew x0 x1 x2 x3 x4 x5 c0 c0a
      generalize hW : wq.setCell ⟨r, 0, none⟩ (.slice (some ⟨bq, 0, none⟩) L.length cq) = w4 at *
      clear hW
      obtain ⟨ao, cap, c0, hT, _⟩ := HG.out.1.cells
      obtain ⟨bl2, cl3, hv', _, _, hbl, htl, hfz⟩ := hT.read (ne_nil_of_lt hil)
      cases hv'
      have HTL := Lib.hid htl
      have HDG := Lib.hid (HG.out.2.out HB.out.2.2.2 HB.out.2.1)
      clear htl
      have x0 := HG.out.2.cell HXX.out.1 HB.out.2.2.2
      have x1 := HG.out.2.cell HXX.out.2.1 HB.out.2.2.2
      have x3 := HG.out.2.cell HXX.out.2.2.1 HB.out.2.2.2
      have x4 := HG.out.2.cell HXX.out.2.2.2.1 HB.out.2.2.2
      have x5 := HG.out.2.cell HXX.out.2.2.2.2 HB.out.2.2.2
      have HC0 := Lib.hid c0
      have HXG := Lib.hid (And.intro x0 (And.intro x1 (And.intro x3 (And.intro x4 x5))))
      have HBL := Lib.hid hbl
      clear hT hbl
      have HPU0 := Rt.put1 HG.out.1 (L' := L.set i (wM x mk on)) HC0.out (List.length_set ..) (rc_set HL.out.1 (j := 3 + mk) (u := .bool on) (by have := HM3.out; omega) (cs_mark x on HM3.out))
      rw [← Nat.add_assoc] at HPU0
      have HPU := Lib.hid (And.intro HPU0.1.drew HPU0.2.drew)
      clear HPU0
      have hmI : ((mk : Nat) : Int) < 3 := by have := HM3.out; omega
      have hm0 : (0 : Int) ≤ ((mk : Nat) : Int) := by omega
      go_still_tail 12, (by kernel_rfl)
      change wpList _ _ _ _ _ (World.drew _)
      have hfz' : ∀ (j : Nat), w4.drew.frozen? ⟨bl2, j, none⟩ = false := hfz
      have he' : ∃ u, w4.drew.cell? ⟨bl2, i * 6 + 3 + mk, none⟩ = some u := by
        obtain ⟨_, _, _, f3, f4, f5⟩ := HTL.out i _ HL.out.1
        rcases (show mk = 0 ∨ mk = 1 ∨ mk = 2 by omega) with rfl | rfl | rfl
        · exact ⟨_, f3⟩
        · exact ⟨_, f4⟩
        · exact ⟨_, f5⟩
      obtain ⟨u, he'⟩ := he'
      clear x0 x1 x3 x4 x5 c0 hfz
      go_upto_region 26 with fail
      generalize (w4.setCell ⟨bl2, i * 6 + 3 + mk, none⟩ (.bool on)).drew = w5 at *
      have x1 := HPU.out.2.cell (HXG.out.2.1) HDG.out
      have x4 := HPU.out.2.cell (HXG.out.2.2.2.1) HDG.out
      have x5 := HPU.out.2.cell (HXG.out.2.2.2.2) HDG.out
      clear he' hfz'
      go_wp2_with (go_at_call 28; refine (HP.out w5 F (HT.out.hp.chg (HG.out.2.trans HPU.out.2) HT.out.sep)).mono ?_; rintro e wa ⟨rfl, F1, σ1, hca, hka, haba⟩)
      go_ret
      obtain ⟨a1, a2⟩ := HT.out.fin2 (HG.out.2.trans HPU.out.2) HPU.out.1 hca hka haba HL.out.2.2.1
      exact ⟨rfl, σ1, _, F1, _, a1, (Chg.of_below (by rw [HD.out]; exact HB.out.1)).trans a2, HL.out.2.2.2⟩
  · have HP := Lib.hid (PDo.of (t := t) h.ab fun w F _ => Mark_arg page mark on t w hmk)
    have hF0 := Lib.hid hF
    clear hF
    by_cases c1 : mark < 0
    · clear hmk
      have hz := heap_alloc_new w (.cells #[.int .i64 7, .int .i64 page, .int .i64 o, .int .i64 v, .int .i64 mark, .bool on] 52)
      have hA : Below w.heap.size w (w.alloc (.cells #[.int .i64 7, .int .i64 page, .int .i64 o, .int .i64 v, .int .i64 mark, .bool on] 52)) := (Below.refl _ _).alloc (Nat.le_refl _) _
      have x0 : (w.alloc (.cells #[.int .i64 7, .int .i64 page, .int .i64 o, .int .i64 v, .int .i64 mark, .bool on] 52)).cell? ⟨w.heap.size, 0, none⟩ = some (.int .i64 7) := cell_of_row _ _ 0 _ 52 _ hz
      have x1 : (w.alloc (.cells #[.int .i64 7, .int .i64 page, .int .i64 o, .int .i64 v, .int .i64 mark, .bool on] 52)).cell? ⟨w.heap.size, 1, none⟩ = some (.int .i64 page) := cell_of_row _ _ 1 _ 52 _ hz
      have x2 : (w.alloc (.cells #[.int .i64 7, .int .i64 page, .int .i64 o, .int .i64 v, .int .i64 mark, .bool on] 52)).cell? ⟨w.heap.size, 2, none⟩ = some (.int .i64 o) := cell_of_row _ _ 2 _ 52 _ hz
      have x3 : (w.alloc (.cells #[.int .i64 7, .int .i64 page, .int .i64 o, .int .i64 v, .int .i64 mark, .bool on] 52)).cell? ⟨w.heap.size, 3, none⟩ = some (.int .i64 v) := cell_of_row _ _ 3 _ 52 _ hz
      have x4 : (w.alloc (.cells #[.int .i64 7, .int .i64 page, .int .i64 o, .int .i64 v, .int .i64 mark, .bool on] 52)).cell? ⟨w.heap.size, 4, none⟩ = some (.int .i64 mark) := cell_of_row _ _ 4 _ 52 _ hz
      have x5 : (w.alloc (.cells #[.int .i64 7, .int .i64 page, .int .i64 o, .int .i64 v, .int .i64 mark, .bool on] 52)).cell? ⟨w.heap.size, 5, none⟩ = some (.bool on) := cell_of_row _ _ 5 _ 52 _ hz
      have HB0 := Lib.hid (And.intro hA (And.intro (lt_of_block hz) (And.intro (fun hm => Nat.lt_irrefl _ (h.hp.lt _ hm) : w.heap.size ∉ F) (fun hm => Nat.lt_irrefl _ (h.rt.lt _ hm) : w.heap.size ∉ G))))
      have HT0 := Lib.hid (h.below hA)
      have HX := Lib.hid (And.intro x0 (And.intro x1 (And.intro x2 (And.intro x3 (And.intro x4 x5)))))
      clear hz hA h x2 x3 x4 x5
      go_enter Try.func40, Try.ntmps40
      go_upto_region 1 with fail
      generalize hD : w.heap.size = D at *
      have HD := Lib.hid hD
      clear hD
      generalize w.alloc (.cells #[.int .i64 7, .int .i64 page, .int .i64 o, .int .i64 v, .int .i64 mark, .bool on] 52) = w1 at *
      go_upto_region 2 with (go_at_call 35; refine (HFI.out w1 G HT0.out.rt).mono ?_; rintro e w2 ⟨rfl, hb⟩)
      have HB := Lib.hid (And.intro (HB0.out.1.trans (hb.mono (by have := HB0.out.1.size; have := HD.out; omega))) (And.intro (Nat.lt_of_lt_of_le HB0.out.2.1 hb.size) HB0.out.2.2))
      have HT := Lib.hid (HT0.out.below hb)
      have x0 := cell_keep hb HX.out.1
      have x1 := cell_keep hb HX.out.2.1
      have x2 := cell_keep hb HX.out.2.2.1
      have x3 := cell_keep hb HX.out.2.2.2.1
      have x4 := cell_keep hb HX.out.2.2.2.2.1
      have x5 := cell_keep hb HX.out.2.2.2.2.2
      clear hb HX HT0 HB0
      go_wp2_with (go_at_call 28; refine (HP.out _ F HT.out.hp).mono ?_; rintro e wa ⟨rfl, F1, σ1, hca, hka, haba⟩)
      go_ret
      obtain ⟨a1, a2⟩ := HT.out.fin hca hka haba HT.out.gd (Chg.refl _ _) (HT.out.rt.chg hca HT.out.sep.symm)
      exact ⟨rfl, σ1, L, F1, G, a1, (Chg.of_below (by rw [HD.out]; exact HB.out.1)).trans a2, Kept.refl _ _⟩
    · have c2 : (2 : Int) < mark := by omega
      clear hmk
      have hz := heap_alloc_new w (.cells #[.int .i64 7, .int .i64 page, .int .i64 o, .int .i64 v, .int .i64 mark, .bool on] 52)
      have hA : Below w.heap.size w (w.alloc (.cells #[.int .i64 7, .int .i64 page, .int .i64 o, .int .i64 v, .int .i64 mark, .bool on] 52)) := (Below.refl _ _).alloc (Nat.le_refl _) _
      have x0 : (w.alloc (.cells #[.int .i64 7, .int .i64 page, .int .i64 o, .int .i64 v, .int .i64 mark, .bool on] 52)).cell? ⟨w.heap.size, 0, none⟩ = some (.int .i64 7) := cell_of_row _ _ 0 _ 52 _ hz
      have x1 : (w.alloc (.cells #[.int .i64 7, .int .i64 page, .int .i64 o, .int .i64 v, .int .i64 mark, .bool on] 52)).cell? ⟨w.heap.size, 1, none⟩ = some (.int .i64 page) := cell_of_row _ _ 1 _ 52 _ hz
      have x2 : (w.alloc (.cells #[.int .i64 7, .int .i64 page, .int .i64 o, .int .i64 v, .int .i64 mark, .bool on] 52)).cell? ⟨w.heap.size, 2, none⟩ = some (.int .i64 o) := cell_of_row _ _ 2 _ 52 _ hz
      have x3 : (w.alloc (.cells #[.int .i64 7, .int .i64 page, .int .i64 o, .int .i64 v, .int .i64 mark, .bool on] 52)).cell? ⟨w.heap.size, 3, none⟩ = some (.int .i64 v) := cell_of_row _ _ 3 _ 52 _ hz
      have x4 : (w.alloc (.cells #[.int .i64 7, .int .i64 page, .int .i64 o, .int .i64 v, .int .i64 mark, .bool on] 52)).cell? ⟨w.heap.size, 4, none⟩ = some (.int .i64 mark) := cell_of_row _ _ 4 _ 52 _ hz
      have x5 : (w.alloc (.cells #[.int .i64 7, .int .i64 page, .int .i64 o, .int .i64 v, .int .i64 mark, .bool on] 52)).cell? ⟨w.heap.size, 5, none⟩ = some (.bool on) := cell_of_row _ _ 5 _ 52 _ hz
      have HB0 := Lib.hid (And.intro hA (And.intro (lt_of_block hz) (And.intro (fun hm => Nat.lt_irrefl _ (h.hp.lt _ hm) : w.heap.size ∉ F) (fun hm => Nat.lt_irrefl _ (h.rt.lt _ hm) : w.heap.size ∉ G))))
      have HT0 := Lib.hid (h.below hA)
      have HX := Lib.hid (And.intro x0 (And.intro x1 (And.intro x2 (And.intro x3 (And.intro x4 x5)))))
      clear hz hA h x2 x3 x4 x5
      go_enter Try.func40, Try.ntmps40
      go_upto_region 1 with fail
      generalize hD : w.heap.size = D at *
      have HD := Lib.hid hD
      clear hD
      generalize w.alloc (.cells #[.int .i64 7, .int .i64 page, .int .i64 o, .int .i64 v, .int .i64 mark, .bool on] 52) = w1 at *
      go_upto_region 2 with (go_at_call 35; refine (HFI.out w1 G HT0.out.rt).mono ?_; rintro e w2 ⟨rfl, hb⟩)
      have HB := Lib.hid (And.intro (HB0.out.1.trans (hb.mono (by have := HB0.out.1.size; have := HD.out; omega))) (And.intro (Nat.lt_of_lt_of_le HB0.out.2.1 hb.size) HB0.out.2.2))
      have HT := Lib.hid (HT0.out.below hb)
      have x0 := cell_keep hb HX.out.1
      have x1 := cell_keep hb HX.out.2.1
      have x2 := cell_keep hb HX.out.2.2.1
      have x3 := cell_keep hb HX.out.2.2.2.1
      have x4 := cell_keep hb HX.out.2.2.2.2.1
      have x5 := cell_keep hb HX.out.2.2.2.2.2
      clear hb HX HT0 HB0
      go_wp2_with (go_at_call 28; refine (HP.out _ F HT.out.hp).mono ?_; rintro e wa ⟨rfl, F1, σ1, hca, hka, haba⟩)
      go_ret
      obtain ⟨a1, a2⟩ := HT.out.fin hca hka haba HT.out.gd (Chg.refl _ _) (HT.out.rt.chg hca HT.out.sep.symm)
      exact ⟨rfl, σ1, L, F1, G, a1, (Chg.of_below (by rw [HD.out]; exact HB.out.1)).trans a2, Kept.refl _ _⟩


end Go.Proofs.Ytdnnfoojdfmajaa
