/- Parts of the proofs of layer 19 (radix): contracts of its functions, and the laws' walks. -/
import Derived.Test.YtdnnfoojdfmajaaProg
import Derived.WalkKit
import Derived.WalkSpells
import Derived.WalkLawsBesides
import Derived.BigQuiet
import Derived.Deep.QuietTactic
import Derived.Lib.Hide
import Derived.Deep.RegionHeld3
import Derived.Deep.DeepCutAuto
import Derived.KernelRfl
import Derived.Deep.OwnRows
import Derived.Laws.CopyOwn
import Derived.Laws.CopyRow
import Derived.StillTailTactics
import Derived.Deep.RegionLaw
import Derived.Handy
import Derived.Deep.CutRange
import Derived.Deep.CutBlock
import Derived.Test.YtdnnfoojdfmajaaX5
import Derived.Test.YtdnnfoojdfmajaaG1
namespace Go.Proofs.Ytdnnfoojdfmajaa
open Go.RowKit
set_option linter.unusedVariables false
set_option linter.unusedSimpArgs false

theorem dwn_eq {g k : Nat} (hk : k ≤ 2) : G.dwn (g : Nat) (3 * ((k : Nat) : Int)) = ((g / 8 ^ k * 8 ^ k : Nat) : Int) := by
  have hk4 : k = 0 ∨ k = 1 ∨ k = 2 := by omega
  unfold G.dwn
  rw [if_pos (by unfold G.ord; exact decide_eq_true (by omega))]
  rcases hk4 with rfl | rfl | rfl
  · show (g : Int) - (g : Int) % 1 = _; omega
  · show (g : Int) - (g : Int) % 8 = _; omega
  · show (g : Int) - (g : Int) % 64 = _; omega
def blk (k q : Nat) : Value := .agg #[.int .i64 ((q * 8 ^ k : Nat) : Int), .int .i64 (3 * ((k : Nat) : Int))]
theorem at_any (g k : Nat) (hg : g < 4096) (hk : k ≤ 2) (w : World) : Calls Try.prog 31 #[.int .i64 (g : Nat), .int .i64 (k : Nat)] w fun e w' => e = .returned (blk k (g / 8 ^ k)) ∧ Below w.heap.size w w' := by
  have HD := Lib.hid (fun W => G.down_any (g : Nat) (3 * ((k : Nat) : Int)) W (by omega) (by omega))
  rw [dwn_eq hk] at HD
  have p1 : IntKind.i64.wrap (3 * ((k : Nat) : Int)) = 3 * ((k : Nat) : Int) := by rw [IntKind.wrap_i64]; omega
  unfold blk
  generalize ((g / 8 ^ k * 8 ^ k : Nat) : Int) = d at *
  go_enter Try.func31, Try.ntmps31
  go_wp2_with fail
  refine (HD.out _).mono ?_
  rintro e w1 ⟨rfl, rfl⟩
  go_wp2_with fail
  have hz := heap_alloc_new w (.cells #[.int .i64 d, .int .i64 (3 * ((k : Nat) : Int))] 29)
  have x0 : (w.alloc (.cells #[.int .i64 d, .int .i64 (3 * ((k : Nat) : Int))] 29)).cell? ⟨w.heap.size, 0, none⟩ = some (.int .i64 d) := cell_of_row _ w.heap.size 0 _ 29 _ hz
  have x1 : (w.alloc (.cells #[.int .i64 d, .int .i64 (3 * ((k : Nat) : Int))] 29)).cell? ⟨w.heap.size, 1, none⟩ = some (.int .i64 (3 * ((k : Nat) : Int))) := cell_of_row _ w.heap.size 1 _ 29 _ hz
  exact bodyPost_ret (v := .agg #[.int .i64 d, .int .i64 (3 * ((k : Nat) : Int))]) (by simp [results, Try.results31, go_sem, x0, x1]) rfl ⟨rfl, (Below.refl _ _).alloc (Nat.le_refl _) _⟩
theorem three_keep {w w' : World} {a b c : Addr} {u v x : Value} (h : Below w.heap.size w w') (k : w.cell? a = some u ∧ w.cell? b = some v ∧ w.cell? c = some x) : w'.cell? a = some u ∧ w'.cell? b = some v ∧ w'.cell? c = some x :=
  ⟨cell_keep h k.1, cell_keep h k.2.1, cell_keep h k.2.2⟩
theorem three_set {w : World} {a b c : Addr} {u v x y z : Value} {B : Nat} (ha : a.block ≠ B) (hb : b.block ≠ B) (hc : c.block ≠ B) (k : w.cell? a = some u ∧ w.cell? b = some v ∧ w.cell? c = some x) : ((w.setCell ⟨B, 0, none⟩ y).setCell ⟨B, 1, none⟩ z).cell? a = some u ∧ ((w.setCell ⟨B, 0, none⟩ y).setCell ⟨B, 1, none⟩ z).cell? b = some v ∧ ((w.setCell ⟨B, 0, none⟩ y).setCell ⟨B, 1, none⟩ z).cell? c = some x := by
  have hs : ∀ a : Addr, a.block ≠ B → ∀ u, w.cell? a = some u → ((w.setCell ⟨B, 0, none⟩ y).setCell ⟨B, 1, none⟩ z).cell? a = some u := fun a ha u hu => by
    refine (World.cell?_of_block ?_).trans hu
    exact (Below.heap_setCell _ ⟨B, 1, none⟩ _ a.block ha).trans (Below.heap_setCell _ ⟨B, 0, none⟩ _ a.block ha)
  exact ⟨hs a ha u k.1, hs b hb v k.2.1, hs c hc x k.2.2⟩
def zblk : Value := .agg #[.int .i64 0, .int .i64 0]

set_option maxHeartbeats 2000000 in
theorem Get_nil (page : Int) (w : World) : Calls Try.prog 20 #[.pointer none, .int .i64 page] w fun e w' => e = .returned (.tuple #[.int .i64 0, zblk, .int .i64 1]) ∧ Below w.heap.size w w' := by
  have hz := heap_alloc_new w (.cells #[.int .i64 0, .int .i64 0] 29)
  have x0 : (w.alloc (.cells #[.int .i64 0, .int .i64 0] 29)).cell? ⟨w.heap.size, 0, none⟩ = some (.int .i64 0) := cell_of_row _ w.heap.size 0 _ 29 _ hz
  have x1 : (w.alloc (.cells #[.int .i64 0, .int .i64 0] 29)).cell? ⟨w.heap.size, 1, none⟩ = some (.int .i64 0) := cell_of_row _ w.heap.size 1 _ 29 _ hz
  have xf := fun j => frozen_of_row _ w.heap.size j _ 29 hz
  have HB := Lib.hid (show Below w.heap.size w (w.alloc (.cells #[.int .i64 0, .int .i64 0] 29)) from (Below.refl _ _).alloc (Nat.le_refl _) _)
  clear hz
  go_enter Try.func20, Try.ntmps20
  go_upto_region 1 with fail
  generalize w.alloc (.cells #[.int .i64 0, .int .i64 0] 29) = w1 at *
  go_wp2_with (go_at_call 32; refine (find_nil page _).mono ?_; rintro e w2 ⟨rfl, rfl⟩)
  refine bodyPost_ret (v := .tuple #[.int .i64 0, zblk, .int .i64 1]) (by simp [results, Try.results20, go_sem, x0, x1, zblk]) rfl ⟨rfl, ?_⟩
  first | exact HB.out | (refine Below.setCell ?_ (by simp) _; refine Below.setCell ?_ (by simp) _; exact HB.out)

set_option maxHeartbeats 2000000 in
theorem Get_out (page : Int) (t : Nat) (w : World) (h : ¬ (0 ≤ page ∧ page < 4096)) : Calls Try.prog 20 #[.pointer (some ⟨t, 0, none⟩), .int .i64 page] w fun e w' => e = .returned (.tuple #[.int .i64 0, zblk, .int .i64 3]) ∧ Below w.heap.size w w' := by
  have hz := heap_alloc_new w (.cells #[.int .i64 0, .int .i64 0] 29)
  have x0 : (w.alloc (.cells #[.int .i64 0, .int .i64 0] 29)).cell? ⟨w.heap.size, 0, none⟩ = some (.int .i64 0) := cell_of_row _ w.heap.size 0 _ 29 _ hz
  have x1 : (w.alloc (.cells #[.int .i64 0, .int .i64 0] 29)).cell? ⟨w.heap.size, 1, none⟩ = some (.int .i64 0) := cell_of_row _ w.heap.size 1 _ 29 _ hz
  have xf := fun j => frozen_of_row _ w.heap.size j _ 29 hz
  have HB := Lib.hid (show Below w.heap.size w (w.alloc (.cells #[.int .i64 0, .int .i64 0] 29)) from (Below.refl _ _).alloc (Nat.le_refl _) _)
  clear hz
  go_enter Try.func20, Try.ntmps20
  go_upto_region 1 with fail
  generalize w.alloc (.cells #[.int .i64 0, .int .i64 0] 29) = w1 at *
  go_wp2_with (go_at_call 32; refine (find_out page t _ h).mono ?_; rintro e w2 ⟨rfl, rfl⟩)
  refine bodyPost_ret (v := .tuple #[.int .i64 0, zblk, .int .i64 3]) (by simp [results, Try.results20, go_sem, x0, x1, zblk]) rfl ⟨rfl, ?_⟩
  first | exact HB.out | (refine Below.setCell ?_ (by simp) _; refine Below.setCell ?_ (by simp) _; exact HB.out)

set_option maxHeartbeats 4000000 in
theorem Get_any (g t : Nat) (σ : St) (many nodes : Int) (F : List Nat) (w : World) (hg : g < 4096) (h : Hp w t σ many nodes F) (hN2 : ∀ q, σ.E 3 q = none) :
    Calls Try.prog 20 #[.pointer (some ⟨t, 0, none⟩), .int .i64 (g : Nat)] w fun e w' => Below w.heap.size w w' ∧ ((Nf σ g ∧ e = .returned (.tuple #[.int .i64 0, zblk, .int .i64 6])) ∨
      ∃ κ x l, At σ g κ l ∧ σ.E κ (g / 8 ^ κ) = some x ∧ e = .returned (.tuple #[.int .i64 (σ.V κ (g / 8 ^ κ)), blk κ (g / 8 ^ κ), .int .i64 0])) := by
  have HH0 := Lib.hid h
  have hz := heap_alloc_new w (.cells #[.int .i64 0, .int .i64 0] 29)
  have x0 : (w.alloc (.cells #[.int .i64 0, .int .i64 0] 29)).cell? ⟨w.heap.size, 0, none⟩ = some (.int .i64 0) := cell_of_row _ w.heap.size 0 _ 29 _ hz
  have x1 : (w.alloc (.cells #[.int .i64 0, .int .i64 0] 29)).cell? ⟨w.heap.size, 1, none⟩ = some (.int .i64 0) := cell_of_row _ w.heap.size 1 _ 29 _ hz
  have xf := fun j => frozen_of_row _ w.heap.size j _ 29 hz
  have hB : Below w.heap.size w (w.alloc (.cells #[.int .i64 0, .int .i64 0] 29)) := (Below.refl _ _).alloc (Nat.le_refl _) _
  have HH := Lib.hid (h.below hB)
  have HB := Lib.hid (And.intro hB (show w.heap.size < (w.alloc (.cells #[.int .i64 0, .int .i64 0] 29)).heap.size from lt_of_block hz))
  clear hz hB h
  go_enter Try.func20, Try.ntmps20
  go_upto_region 1 with fail
  generalize w.alloc (.cells #[.int .i64 0, .int .i64 0] 29) = w1 at *
  go_wp2_with fail
  refine (find_any g t σ many nodes F w1 hg HH.out).mono ?_
  rintro e w2 ⟨hb2, he⟩
  have x0 := cell_keep hb2 x0
  have x1 := cell_keep hb2 x1
  have xf : ∀ j, w2.frozen? ⟨w.heap.size, j, none⟩ = false := fun j => (hb2.frozen HB.out.2).trans (xf j)
  have HB3 := Lib.hid (HB.out.1.trans (hb2.mono HB.out.1.size))
  rcases he with ⟨hn, rfl⟩ | ⟨κ, m, l, b, x, vb, cap, hf, rfl⟩
  · have HN := Lib.hid hn
    clear hn hb2
    go_wp2_with fail
    refine bodyPost_ret (v := .tuple #[.int .i64 0, zblk, .int .i64 6]) (by simp [results, Try.results20, go_sem, x0, x1, zblk]) rfl ⟨?_, .inl ⟨HN.out, rfl⟩⟩
    first | exact HB3.out | (refine Below.setCell ?_ (by simp) _; refine Below.setCell ?_ (by simp) _; exact HB3.out)
  · have hκ2 : κ ≤ 2 := by
      have h1 := hf.at_.le
      have h2 := hf.ex
      by_cases h3 : κ = 3
      · subst h3; rw [hN2] at h2; cases h2
      · omega
    have H2 := Lib.hid (HH.out.below hb2)
    have HF := Lib.hid hf
    have hs8 : g / 8 ^ κ % 8 < 8 := by omega
    have hm3 : m ≤ 3 := by have := hf.mq; omega
    have hκ3 := hf.at_.le
    have HQ := Lib.hid (bel_eq (g := g) (k := κ))
    have hlst := hf.lst
    have hcell := H2.out.ecell hf.nb hs8
    rw [HQ.out, hf.ex] at hcell
    have hecell : w2.cell? ⟨b, 8 + g / 8 ^ κ % 8, none⟩ = some (.pointer (some ⟨x, 0, none⟩)) := hcell
    obtain ⟨hvc, hvf⟩ := H2.out.vcell hf.ex
    have HS := Lib.hid (fun W => (slot_any g κ hg hκ3 W).mono fun _ _ h => (⟨h.1, h.2.symm⟩ : _ ∧ _))
    have p0 : ¬ (((m : Nat) : Int) + 1 = 0) := by omega
    have p1 : IntKind.i64.wrap ((m : Nat) : Int) = ((m : Nat) : Int) := by rw [IntKind.wrap_i64]; omega
    have p2 : ((m : Nat) : Int) < ((m : Nat) : Int) + 1 := by omega
    have h1 : ((g / 8 ^ κ % 8 : Nat) : Int) < 8 := by omega
    have HB2 := Lib.hid hb2
    clear hcell hf hb2
    generalize hs : g / 8 ^ κ % 8 = s at *
    have HSS := Lib.hid hs
    clear hs
    have HAT := Lib.hid (fun W => at_any g κ hg hκ2 W)
    have HX := Lib.hid (show σ.E κ (g / 8 ^ κ) = some x from HF.out.ex)
    obtain ⟨d, hd⟩ : ∃ d : Int, blk κ (g / 8 ^ κ) = .agg #[.int .i64 d, .int .i64 (3 * ((κ : Nat) : Int))] := ⟨_, rfl⟩
    have HDD := Lib.hid hd
    rw [hd] at HAT
    clear hd
    obtain ⟨v, hv⟩ : ∃ v, σ.V κ (g / 8 ^ κ) = v := ⟨_, rfl⟩
    have HV := Lib.hid hv
    rw [hv] at hvc
    clear hv
    have xf0 := xf 0
    have xf1 := xf 1
    go_upto_region 4 with fail
    have hBl := Lib.hid (show w.heap.size < w2.heap.size from by have := HB2.out.size; have := HB.out.2; omega)
    have hn1 : vb ≠ w.heap.size := by have := HF.out.vB; have := HB.out.2; omega
    have hn2 : b ≠ w.heap.size := by have := HH0.out.lt b (HH0.out.nd _ _ _ HF.out.nb).2; omega
    have hn3 : x ≠ w.heap.size := by have := HH0.out.lt x (HH0.out.en _ _ _ HF.out.ex).2; omega
    have HNE := Lib.hid (And.intro hn1 (And.intro hn2 hn3))
    clear hn1 hn2 hn3
    go_region_held3 (fun w' => w'.cell? ⟨vb, m, none⟩ = some (.pointer (some ⟨b, 0, none⟩)) ∧ w'.cell? ⟨b, 8 + s, none⟩ = some (.pointer (some ⟨x, 0, none⟩)) ∧ w'.cell? ⟨x, 0, none⟩ = some (.int .i64 v)) (first | exact three_keep hb5 (by assumption) | exact three_set HNE.out.1 HNE.out.2.1 HNE.out.2.2 (by assumption) | go_keep) (first
      | (go_at_call 33; refine (HS.out _).mono ?_; rintro e _ ⟨rfl, rfl⟩)
      | (go_at_call 31; refine (HAT.out _).mono ?_; rintro e w5 ⟨rfl, hb5⟩; have y0 := cell_keep hb5 (show w2.drew.cell? ⟨w.heap.size, 0, none⟩ = some (.int .i64 0) from x0); have y1 := cell_keep hb5 (show w2.drew.cell? ⟨w.heap.size, 1, none⟩ = some (.int .i64 0) from x1); have y2 : w5.frozen? ⟨w.heap.size, 0, none⟩ = false := (hb5.frozen hBl.out).trans xf0; have y3 : w5.frozen? ⟨w.heap.size, 1, none⟩ = false := (hb5.frozen hBl.out).trans xf1))
    go_wp2_with fail
    refine bodyPost_ret (v := .tuple #[.int .i64 v, .agg #[.int .i64 d, .int .i64 (3 * ((κ : Nat) : Int))], .int .i64 0]) (by simp [results, Try.results20, go_sem, y0, y1, y2, y3]) rfl ⟨?_, .inr ⟨κ, x, l, HF.out.at_, HF.out.ex, by rw [HDD.out, HV.out]⟩⟩
    refine Below.setCell ?_ (by simp) _
    refine Below.setCell ?_ (by simp) _
    exact HB3.out.trans (below_undrew (hb5.mono HB3.out.size))

end Go.Proofs.Ytdnnfoojdfmajaa
