/- Parts of the proofs of layer 19 (radix): contracts of its functions, and the laws' walks. -/
import Derived.Test.YtdnnfoojdfmajaaProg
import Derived.WalkKit
import Derived.WalkSpells
import Derived.WalkLawsBesides
import Derived.BigQuiet
import Derived.Deep.QuietTactic
import Derived.Lib.Hide
import Derived.Deep.RegionHeld3
import Derived.Deep.DeepCutAuto
import Derived.KernelRfl
import Derived.Deep.OwnRows
import Derived.Laws.CopyOwn
import Derived.Laws.CopyRow
import Derived.StillTailTactics
import Derived.Deep.RegionLaw
import Derived.Handy
import Derived.Deep.CutRange
import Derived.Deep.CutBlock
import Derived.Test.YtdnnfoojdfmajaaA7
import Derived.OwnWalk
namespace Go.Proofs.Ytdnnfoojdfmajaa
open Go.RowKit
set_option linter.unusedVariables false
set_option linter.unusedSimpArgs false

theorem Get_nf (g t : Nat) (σ : St) (L : List X) (many nodes : Int) (F : List Nat) (w : World) (hg : g < 4096) (h : Hp w t σ many nodes F) (hab : Ab σ L) (hgd : Good L) (hn : ∀ x ∈ L, ¬ Cov x g) :
    Calls Try.prog 20 #[.pointer (some ⟨t, 0, none⟩), .int .i64 (g : Nat)] w fun e w' => e = .returned (.tuple #[.int .i64 0, zblk, .int .i64 6]) ∧ Below w.heap.size w w' :=
  (Get_any g t σ many nodes F w hg h (fun q => by
    cases he : σ.E 3 q with
    | none => rfl
    | some e => have := hab.ent_le hgd he; omega)).mono fun e w' ⟨h1, h2⟩ => by
    rcases h2 with ⟨_, he⟩ | ⟨κ, x, l, hA, hE, _⟩
    · exact ⟨he, h1⟩
    · exact absurd (hab.nf hgd hg hn) (hA.not_nf hE hg)
theorem Get_is (g t : Nat) (σ : St) (L : List X) (many nodes : Int) (F : List Nat) (w : World) (hg : g < 4096) (h : Hp w t σ many nodes F) (hab : Ab σ L) (hgd : Good L) {x : X} (hx : x ∈ L) (hc : Cov x g) :
    Calls Try.prog 20 #[.pointer (some ⟨t, 0, none⟩), .int .i64 (g : Nat)] w fun e w' => e = .returned (.tuple #[.int .i64 x.v, .agg #[.int .i64 ((x.p : Nat) : Int), .int .i64 (3 * ((x.k : Nat) : Int))], .int .i64 0]) ∧ Below w.heap.size w w' := by
  obtain ⟨l, e, hA, hE⟩ := hab.at_ hgd hx hg hc
  refine (Get_ok g t σ many nodes F x.k e l w hg h (fun q => ?_) hA hE).mono fun e w' ⟨h1, h2⟩ => ⟨?_, h1⟩
  · cases he : σ.E 3 q with
    | none => rfl
    | some e => have := hab.ent_le hgd he; omega
  · rw [h2, hab.val hgd hx hc]
    unfold blk
    rw [← ((hgd.1 x hx).cov g).1 hc, ← (hgd.1 x hx).aligned]
set_option maxRecDepth 100000 in
set_option maxHeartbeats 16000000 in
theorem one_get (kind : Int) (hk : kind ≠ 0 ∧ kind ≠ 1 ∧ kind ≠ 2 ∧ kind ≠ 3 ∧ kind ≠ 4 ∧ kind ≠ 5 ∧ kind ≠ 6 ∧ kind ≠ 7 ∧ kind ≠ 8) (page o v mark : Int) (on : Bool) (t r : Nat) (σ : St) (L : List X) (F G : List Nat) (w : World) (h : Tw w t r σ L F G) : Calls Try.prog 40 #[.pointer (some ⟨t, 0, none⟩), .pointer (some ⟨r, 0, none⟩), .agg #[.int .i64 kind, .int .i64 page, .int .i64 o, .int .i64 v, .int .i64 mark, .bool on]] w fun e w' => OneOk w t r L F G page e w' := by
  obtain ⟨fi, fc, hF, hfi⟩ := find_gen page r L h.gd
  have HFI := Lib.hid hfi
  clear hfi
  have k0 : ¬ (kind = 0) := hk.1
  have k1 : ¬ (kind = 1) := hk.2.1
  have k2 : ¬ (kind = 2) := hk.2.2.1
  have k3 : ¬ (kind = 3) := hk.2.2.2.1
  have k4 : ¬ (kind = 4) := hk.2.2.2.2.1
  have k5 : ¬ (kind = 5) := hk.2.2.2.2.2.1
  have k6 : ¬ (kind = 6) := hk.2.2.2.2.2.2.1
  have k7 : ¬ (kind = 7) := hk.2.2.2.2.2.2.2.1
  have k8 : ¬ (kind = 8) := hk.2.2.2.2.2.2.2.2
  clear hk
  rcases hF with ⟨h1, rfl, rfl⟩ | ⟨g, rfl, hg4, hn, rfl, rfl⟩ | ⟨g, i, x, rfl, hg4, hi, hc, rfl, rfl⟩
  · have HGT := Lib.hid (fun w F (_ : Hp w t σ ((L.length : Nat) : Int) ((cntN σ.N : Nat) : Int) F) => Get_out page t w h1)
    clear h1
    have hz := heap_alloc_new w (.cells #[.int .i64 kind, .int .i64 page, .int .i64 o, .int .i64 v, .int .i64 mark, .bool on] 52)
    have hA : Below w.heap.size w (w.alloc (.cells #[.int .i64 kind, .int .i64 page, .int .i64 o, .int .i64 v, .int .i64 mark, .bool on] 52)) := (Below.refl _ _).alloc (Nat.le_refl _) _
    have x0 : (w.alloc (.cells #[.int .i64 kind, .int .i64 page, .int .i64 o, .int .i64 v, .int .i64 mark, .bool on] 52)).cell? ⟨w.heap.size, 0, none⟩ = some (.int .i64 kind) := cell_of_row _ _ 0 _ 52 _ hz
    have x1 : (w.alloc (.cells #[.int .i64 kind, .int .i64 page, .int .i64 o, .int .i64 v, .int .i64 mark, .bool on] 52)).cell? ⟨w.heap.size, 1, none⟩ = some (.int .i64 page) := cell_of_row _ _ 1 _ 52 _ hz
    have x2 : (w.alloc (.cells #[.int .i64 kind, .int .i64 page, .int .i64 o, .int .i64 v, .int .i64 mark, .bool on] 52)).cell? ⟨w.heap.size, 2, none⟩ = some (.int .i64 o) := cell_of_row _ _ 2 _ 52 _ hz
    have x3 : (w.alloc (.cells #[.int .i64 kind, .int .i64 page, .int .i64 o, .int .i64 v, .int .i64 mark, .bool on] 52)).cell? ⟨w.heap.size, 3, none⟩ = some (.int .i64 v) := cell_of_row _ _ 3 _ 52 _ hz
    have x4 : (w.alloc (.cells #[.int .i64 kind, .int .i64 page, .int .i64 o, .int .i64 v, .int .i64 mark, .bool on] 52)).cell? ⟨w.heap.size, 4, none⟩ = some (.int .i64 mark) := cell_of_row _ _ 4 _ 52 _ hz
    have x5 : (w.alloc (.cells #[.int .i64 kind, .int .i64 page, .int .i64 o, .int .i64 v, .int .i64 mark, .bool on] 52)).cell? ⟨w.heap.size, 5, none⟩ = some (.bool on) := cell_of_row _ _ 5 _ 52 _ hz
    have HB0 := Lib.hid (And.intro hA (And.intro (lt_of_block hz) (And.intro (fun hm => Nat.lt_irrefl _ (h.hp.lt _ hm) : w.heap.size ∉ F) (fun hm => Nat.lt_irrefl _ (h.rt.lt _ hm) : w.heap.size ∉ G))))
    have HT0 := Lib.hid (h.below hA)
    have HX := Lib.hid (And.intro x0 (And.intro x1 (And.intro x2 (And.intro x3 (And.intro x4 x5)))))
    clear hz hA h x2 x3 x4 x5
    go_enter Try.func40, Try.ntmps40
    go_upto_region 1 with fail
    generalize hD : w.heap.size = D at *
    have HD := Lib.hid hD
    clear hD
    generalize w.alloc (.cells #[.int .i64 kind, .int .i64 page, .int .i64 o, .int .i64 v, .int .i64 mark, .bool on] 52) = w1 at *
    go_upto_region 2 with (go_at_call 35; refine (HFI.out w1 G HT0.out.rt).mono ?_; rintro e w2 ⟨rfl, hb⟩)
    have HB := Lib.hid (And.intro (HB0.out.1.trans (hb.mono (by have := HB0.out.1.size; have := HD.out; omega))) (And.intro (Nat.lt_of_lt_of_le HB0.out.2.1 hb.size) HB0.out.2.2))
    have HT := Lib.hid (HT0.out.below hb)
    have x0 := cell_keep hb HX.out.1
    have x1 := cell_keep hb HX.out.2.1
    have x2 := cell_keep hb HX.out.2.2.1
    have x3 := cell_keep hb HX.out.2.2.2.1
    have x4 := cell_keep hb HX.out.2.2.2.2.1
    have x5 := cell_keep hb HX.out.2.2.2.2.2
    clear hb HX HT0 HB0
    go_wp2_with (go_at_call 20; refine (HGT.out w2 F HT.out.hp).mono ?_; rintro e w3 ⟨rfl, hb3⟩; have HB3 := Lib.hid hb3; clear hb3; unfold zblk)
    go_ret
    have hbA := HB3.out.alloc HB3.out.size (.cells #[.int .i64 0, .int .i64 0] 29)
    exact ⟨rfl, σ, L, F, G, HT.out.below hbA, Chg.of_below (by rw [HD.out]; exact HB.out.1.trans (hbA.mono (by have := HB.out.1.size; have := HD.out; omega))), Kept.refl _ _⟩
  · have HGT := Lib.hid (fun w F (hh : Hp w t σ ((L.length : Nat) : Int) ((cntN σ.N : Nat) : Int) F) => Get_nf g t σ L _ _ F w hg4 hh h.ab h.gd hn)
    clear hn hg4
    have hz := heap_alloc_new w (.cells #[.int .i64 kind, .int .i64 ((g : Nat) : Int), .int .i64 o, .int .i64 v, .int .i64 mark, .bool on] 52)
    have hA : Below w.heap.size w (w.alloc (.cells #[.int .i64 kind, .int .i64 ((g : Nat) : Int), .int .i64 o, .int .i64 v, .int .i64 mark, .bool on] 52)) := (Below.refl _ _).alloc (Nat.le_refl _) _
    have x0 : (w.alloc (.cells #[.int .i64 kind, .int .i64 ((g : Nat) : Int), .int .i64 o, .int .i64 v, .int .i64 mark, .bool on] 52)).cell? ⟨w.heap.size, 0, none⟩ = some (.int .i64 kind) := cell_of_row _ _ 0 _ 52 _ hz
    have x1 : (w.alloc (.cells #[.int .i64 kind, .int .i64 ((g : Nat) : Int), .int .i64 o, .int .i64 v, .int .i64 mark, .bool on] 52)).cell? ⟨w.heap.size, 1, none⟩ = some (.int .i64 ((g : Nat) : Int)) := cell_of_row _ _ 1 _ 52 _ hz
    have x2 : (w.alloc (.cells #[.int .i64 kind, .int .i64 ((g : Nat) : Int), .int .i64 o, .int .i64 v, .int .i64 mark, .bool on] 52)).cell? ⟨w.heap.size, 2, none⟩ = some (.int .i64 o) := cell_of_row _ _ 2 _ 52 _ hz
    have x3 : (w.alloc (.cells #[.int .i64 kind, .int .i64 ((g : Nat) : Int), .int .i64 o, .int .i64 v, .int .i64 mark, .bool on] 52)).cell? ⟨w.heap.size, 3, none⟩ = some (.int .i64 v) := cell_of_row _ _ 3 _ 52 _ hz
    have x4 : (w.alloc (.cells #[.int .i64 kind, .int .i64 ((g : Nat) : Int), .int .i64 o, .int .i64 v, .int .i64 mark, .bool on] 52)).cell? ⟨w.heap.size, 4, none⟩ = some (.int .i64 mark) := cell_of_row _ _ 4 _ 52 _ hz
    have x5 : (w.alloc (.cells #[.int .i64 kind, .int .i64 ((g : Nat) : Int), .int .i64 o, .int .i64 v, .int .i64 mark, .bool on] 52)).cell? ⟨w.heap.size, 5, none⟩ = some (.bool on) := cell_of_row _ _ 5 _ 52 _ hz
    have HB0 := Lib.hid (And.intro hA (And.intro (lt_of_block hz) (And.intro (fun hm => Nat.lt_irrefl _ (h.hp.lt _ hm) : w.heap.size ∉ F) (fun hm => Nat.lt_irrefl _ (h.rt.lt _ hm) : w.heap.size ∉ G))))
    have HT0 := Lib.hid (h.below hA)
    have HX := Lib.hid (And.intro x0 (And.intro x1 (And.intro x2 (And.intro x3 (And.intro x4 x5)))))
    clear hz hA h x2 x3 x4 x5
    go_enter Try.func40, Try.ntmps40
    go_upto_region 1 with fail
    generalize hD : w.heap.size = D at *
    have HD := Lib.hid hD
    clear hD
    generalize w.alloc (.cells #[.int .i64 kind, .int .i64 ((g : Nat) : Int), .int .i64 o, .int .i64 v, .int .i64 mark, .bool on] 52) = w1 at *
    go_upto_region 2 with (go_at_call 35; refine (HFI.out w1 G HT0.out.rt).mono ?_; rintro e w2 ⟨rfl, hb⟩)
    have HB := Lib.hid (And.intro (HB0.out.1.trans (hb.mono (by have := HB0.out.1.size; have := HD.out; omega))) (And.intro (Nat.lt_of_lt_of_le HB0.out.2.1 hb.size) HB0.out.2.2))
    have HT := Lib.hid (HT0.out.below hb)
    have x0 := cell_keep hb HX.out.1
    have x1 := cell_keep hb HX.out.2.1
    have x2 := cell_keep hb HX.out.2.2.1
    have x3 := cell_keep hb HX.out.2.2.2.1
    have x4 := cell_keep hb HX.out.2.2.2.2.1
    have x5 := cell_keep hb HX.out.2.2.2.2.2
    clear hb HX HT0 HB0
    go_wp2_with (go_at_call 20; refine (HGT.out w2 F HT.out.hp).mono ?_; rintro e w3 ⟨rfl, hb3⟩; have HB3 := Lib.hid hb3; clear hb3; unfold zblk)
    go_ret
    have hbA := HB3.out.alloc HB3.out.size (.cells #[.int .i64 0, .int .i64 0] 29)
    exact ⟨rfl, σ, L, F, G, HT.out.below hbA, Chg.of_below (by rw [HD.out]; exact HB.out.1.trans (hbA.mono (by have := HB.out.1.size; have := HD.out; omega))), Kept.refl _ _⟩
  · have HGT := Lib.hid (fun w F (hh : Hp w t σ ((L.length : Nat) : Int) ((cntN σ.N : Nat) : Int) F) => Get_is g t σ L _ _ F w hg4 hh h.ab h.gd (List.mem_of_getElem? hi) hc)
    have HL := Lib.hid hi
    have hil : i < L.length := (List.getElem?_eq_some_iff.1 hi).1
    have hiI : ((i : Nat) : Int) < ((L.length : Nat) : Int) := by omega
    have hi0 : (0 : Int) ≤ ((i : Nat) : Int) := by omega
    clear hi hc hg4
    have hz := heap_alloc_new w (.cells #[.int .i64 kind, .int .i64 ((g : Nat) : Int), .int .i64 o, .int .i64 v, .int .i64 mark, .bool on] 52)
    have hA : Below w.heap.size w (w.alloc (.cells #[.int .i64 kind, .int .i64 ((g : Nat) : Int), .int .i64 o, .int .i64 v, .int .i64 mark, .bool on] 52)) := (Below.refl _ _).alloc (Nat.le_refl _) _
    have x0 : (w.alloc (.cells #[.int .i64 kind, .int .i64 ((g : Nat) : Int), .int .i64 o, .int .i64 v, .int .i64 mark, .bool on] 52)).cell? ⟨w.heap.size, 0, none⟩ = some (.int .i64 kind) := cell_of_row _ _ 0 _ 52 _ hz
    have x1 : (w.alloc (.cells #[.int .i64 kind, .int .i64 ((g : Nat) : Int), .int .i64 o, .int .i64 v, .int .i64 mark, .bool on] 52)).cell? ⟨w.heap.size, 1, none⟩ = some (.int .i64 ((g : Nat) : Int)) := cell_of_row _ _ 1 _ 52 _ hz
    have x2 : (w.alloc (.cells #[.int .i64 kind, .int .i64 ((g : Nat) : Int), .int .i64 o, .int .i64 v, .int .i64 mark, .bool on] 52)).cell? ⟨w.heap.size, 2, none⟩ = some (.int .i64 o) := cell_of_row _ _ 2 _ 52 _ hz
    have x3 : (w.alloc (.cells #[.int .i64 kind, .int .i64 ((g : Nat) : Int), .int .i64 o, .int .i64 v, .int .i64 mark, .bool on] 52)).cell? ⟨w.heap.size, 3, none⟩ = some (.int .i64 v) := cell_of_row _ _ 3 _ 52 _ hz
    have x4 : (w.alloc (.cells #[.int .i64 kind, .int .i64 ((g : Nat) : Int), .int .i64 o, .int .i64 v, .int .i64 mark, .bool on] 52)).cell? ⟨w.heap.size, 4, none⟩ = some (.int .i64 mark) := cell_of_row _ _ 4 _ 52 _ hz
    have x5 : (w.alloc (.cells #[.int .i64 kind, .int .i64 ((g : Nat) : Int), .int .i64 o, .int .i64 v, .int .i64 mark, .bool on] 52)).cell? ⟨w.heap.size, 5, none⟩ = some (.bool on) := cell_of_row _ _ 5 _ 52 _ hz
    have HB0 := Lib.hid (And.intro hA (And.intro (lt_of_block hz) (And.intro (fun hm => Nat.lt_irrefl _ (h.hp.lt _ hm) : w.heap.size ∉ F) (fun hm => Nat.lt_irrefl _ (h.rt.lt _ hm) : w.heap.size ∉ G))))
    have HT0 := Lib.hid (h.below hA)
    have HX := Lib.hid (And.intro x0 (And.intro x1 (And.intro x2 (And.intro x3 (And.intro x4 x5)))))
    clear hz hA h x2 x3 x4 x5
    go_enter Try.func40, Try.ntmps40
    go_upto_region 1 with fail
    generalize hD : w.heap.size = D at *
    have HD := Lib.hid hD
    clear hD
    generalize w.alloc (.cells #[.int .i64 kind, .int .i64 ((g : Nat) : Int), .int .i64 o, .int .i64 v, .int .i64 mark, .bool on] 52) = w1 at *
    go_upto_region 2 with (go_at_call 35; refine (HFI.out w1 G HT0.out.rt).mono ?_; rintro e w2 ⟨rfl, hb⟩)
    have HB := Lib.hid (And.intro (HB0.out.1.trans (hb.mono (by have := HB0.out.1.size; have := HD.out; omega))) (And.intro (Nat.lt_of_lt_of_le HB0.out.2.1 hb.size) HB0.out.2.2))
    have HT := Lib.hid (HT0.out.below hb)
    have x0 := cell_keep hb HX.out.1
    have x1 := cell_keep hb HX.out.2.1
    have x2 := cell_keep hb HX.out.2.2.1
    have x3 := cell_keep hb HX.out.2.2.2.1
    have x4 := cell_keep hb HX.out.2.2.2.2.1
    have x5 := cell_keep hb HX.out.2.2.2.2.2
    clear hb HX HT0 HB0
    go_upto_region 34 with (go_at_call 20; refine (HGT.out w2 F HT.out.hp).mono ?_; rintro e w3 ⟨rfl, hb3⟩; have HB3 := Lib.hid hb3; clear hb3)
    have hz := heap_alloc_new w3 (.cells #[.int .i64 ((x.p : Nat) : Int), .int .i64 (3 * ((x.k : Nat) : Int))] 29)
    have y0 := cell_of_row _ _ 0 _ 29 _ hz
    have y1 := cell_of_row _ _ 1 _ 29 _ hz
    have hbA := HB3.out.alloc HB3.out.size (.cells #[.int .i64 ((x.p : Nat) : Int), .int .i64 (3 * ((x.k : Nat) : Int))] 29)
    have HB4 := Lib.hid (And.intro (HB.out.1.trans (hbA.mono (by have := HB.out.1.size; have := HD.out; omega))) (HT.out.below hbA))
    have HY := Lib.hid (And.intro y0 y1)
    clear hz y0 y1 hbA x0 x1 x2 x3 x4 x5
    generalize w3.alloc (.cells #[.int .i64 ((x.p : Nat) : Int), .int .i64 (3 * ((x.k : Nat) : Int))] 29) = w4 at *
    generalize w3.heap.size = B3 at *
    obtain ⟨ao, cap, c0, hT, _⟩ := HB4.out.2.rt.cells
    obtain ⟨bl, cl2, hv', _, _, hbl, hcell, _⟩ := hT.read (ne_nil_of_lt hil)
    cases hv'
    obtain ⟨e0, e1, e2, e3, e4, e5⟩ := hcell i _ HL.out
    clear hT hbl hcell
    have hA2 : Below w4.heap.size w4 (w4.alloc (.cells #[.int .i64 ((x.p : Nat) : Int), .int .i64 (3 * ((x.k : Nat) : Int)), .int .i64 x.v, .bool x.a, .bool x.b, .bool x.c] 40)) := (Below.refl _ _).alloc (Nat.le_refl _) _
    have HB5 := Lib.hid (And.intro (HB4.out.1.trans (hA2.mono (by have := HB4.out.1.size; have := HD.out; omega))) (HB4.out.2.below hA2))
    have y0 := cell_keep hA2 HY.out.1
    have y1 := cell_keep hA2 HY.out.2
    clear hA2
    go_upto_region 35 with fail
    clear e0 e1 e2 e3 e4 e5 c0
    obtain ⟨e0, e1, e2, e3, e4, e5⟩ := newX x w4
    generalize w4.alloc (.cells #[.int .i64 ((x.p : Nat) : Int), .int .i64 (3 * ((x.k : Nat) : Int)), .int .i64 x.v, .bool x.a, .bool x.b, .bool x.c] 40) = w5 at *
    generalize w4.heap.size = B4 at *
    obtain ⟨ko, hko⟩ : ∃ ko, 3 * ((x.k : Nat) : Int) = ko := ⟨_, rfl⟩
    rw [hko] at e1 y1
    go_wp2_with fail
    go_ret
    exact ⟨rfl, σ, L, F, G, HB5.out.2, Chg.of_below (by rw [HD.out]; exact HB5.out.1), Kept.refl _ _⟩


end Go.Proofs.Ytdnnfoojdfmajaa
