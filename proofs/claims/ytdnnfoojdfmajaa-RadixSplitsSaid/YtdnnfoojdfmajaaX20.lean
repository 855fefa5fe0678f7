/- Parts of the proofs of layer 19 (radix): contracts of its functions, and the laws' walks. -/
import Derived.Test.YtdnnfoojdfmajaaProg
import Derived.WalkKit
import Derived.WalkSpells
import Derived.WalkLawsBesides
import Derived.BigQuiet
import Derived.Deep.QuietTactic
import Derived.Lib.Hide
import Derived.Deep.RegionHeld3
import Derived.Deep.DeepCutAuto
import Derived.KernelRfl
import Derived.Deep.OwnRows
import Derived.Laws.CopyOwn
import Derived.Laws.CopyRow
import Derived.StillTailTactics
import Derived.Deep.RegionLaw
import Derived.Handy
import Derived.Deep.CutRange
import Derived.Deep.CutBlock
import Derived.Test.YtdnnfoojdfmajaaX19
namespace Go.Proofs.Ytdnnfoojdfmajaa
open Go.RowKit
set_option linter.unusedVariables false
set_option linter.unusedSimpArgs false

theorem boxes (page mark : Int) (w : World) : ((((w.alloc (.cells #[.int .i64 page] 3)).alloc (.cells #[.int .i64 mark] 3)).alloc (.cells #[.int .i64 0, .int .i64 0] 29)).cell? ⟨w.heap.size, 0, none⟩ = some (.int .i64 page) ∧ (((w.alloc (.cells #[.int .i64 page] 3)).alloc (.cells #[.int .i64 mark] 3)).alloc (.cells #[.int .i64 0, .int .i64 0] 29)).cell? ⟨w.heap.size + 1, 0, none⟩ = some (.int .i64 mark) ∧ (((w.alloc (.cells #[.int .i64 page] 3)).alloc (.cells #[.int .i64 mark] 3)).alloc (.cells #[.int .i64 0, .int .i64 0] 29)).cell? ⟨w.heap.size + 1 + 1, 0, none⟩ = some (.int .i64 0) ∧ (((w.alloc (.cells #[.int .i64 page] 3)).alloc (.cells #[.int .i64 mark] 3)).alloc (.cells #[.int .i64 0, .int .i64 0] 29)).cell? ⟨w.heap.size + 1 + 1, 1, none⟩ = some (.int .i64 0) ∧ (((w.alloc (.cells #[.int .i64 page] 3)).alloc (.cells #[.int .i64 mark] 3)).alloc (.cells #[.int .i64 0, .int .i64 0] 29)).frozen? ⟨w.heap.size + 1 + 1, 0, none⟩ = false ∧ (((w.alloc (.cells #[.int .i64 page] 3)).alloc (.cells #[.int .i64 mark] 3)).alloc (.cells #[.int .i64 0, .int .i64 0] 29)).frozen? ⟨w.heap.size + 1 + 1, 1, none⟩ = false) ∧
    Below w.heap.size w (((w.alloc (.cells #[.int .i64 page] 3)).alloc (.cells #[.int .i64 mark] 3)).alloc (.cells #[.int .i64 0, .int .i64 0] 29)) ∧ (((w.alloc (.cells #[.int .i64 page] 3)).alloc (.cells #[.int .i64 mark] 3)).alloc (.cells #[.int .i64 0, .int .i64 0] 29)).heap.size = w.heap.size + 1 + 1 + 1 := by
  have hz := heap_alloc_new ((w.alloc (.cells #[.int .i64 page] 3)).alloc (.cells #[.int .i64 mark] 3)) (.cells #[.int .i64 0, .int .i64 0] 29)
  have h1 := heap_alloc_new w (.cells #[.int .i64 page] 3)
  have h2 := heap_alloc_new (w.alloc (.cells #[.int .i64 page] 3)) (.cells #[.int .i64 mark] 3)
  have b1 : Below w.heap.size w (w.alloc (.cells #[.int .i64 page] 3)) := (Below.refl _ _).alloc (Nat.le_refl _) _
  have b2 : Below (w.alloc (.cells #[.int .i64 page] 3)).heap.size (w.alloc (.cells #[.int .i64 page] 3)) ((w.alloc (.cells #[.int .i64 page] 3)).alloc (.cells #[.int .i64 mark] 3)) := (Below.refl _ _).alloc (Nat.le_refl _) _
  have b3 : Below ((w.alloc (.cells #[.int .i64 page] 3)).alloc (.cells #[.int .i64 mark] 3)).heap.size ((w.alloc (.cells #[.int .i64 page] 3)).alloc (.cells #[.int .i64 mark] 3)) (((w.alloc (.cells #[.int .i64 page] 3)).alloc (.cells #[.int .i64 mark] 3)).alloc (.cells #[.int .i64 0, .int .i64 0] 29)) := (Below.refl _ _).alloc (Nat.le_refl _) _
  have e2 : ((w.alloc (.cells #[.int .i64 page] 3)).alloc (.cells #[.int .i64 mark] 3)).heap.size = w.heap.size + 1 + 1 := by simp
  have e1 : (w.alloc (.cells #[.int .i64 page] 3)).heap.size = w.heap.size + 1 := by simp
  have p3 := cell_keep b3 (cell_keep b2 (cell_of_row _ _ 0 _ 3 _ h1))
  have m3 := cell_keep b3 (cell_of_row _ _ 0 _ 3 _ h2)
  rw [e2] at hz
  rw [e1] at m3
  exact ⟨⟨p3, m3, cell_of_row _ _ 0 _ 29 _ hz, cell_of_row _ _ 1 _ 29 _ hz, frozen_of_row _ _ 0 _ 29 hz, frozen_of_row _ _ 1 _ 29 hz⟩, (b1.trans (b2.mono b1.size)).trans (b3.mono (Nat.le_trans b1.size b2.size)), by simp⟩
set_option maxHeartbeats 2000000 in
theorem Next_nil (page mark : Int) (w : World) : Calls Try.prog 11 #[.pointer none, .int .i64 page, .int .i64 mark] w fun e w' => e = .returned (.tuple #[zblk, .int .i64 1]) ∧ Below w.heap.size w w' := by
  have X0 := Lib.hid (boxes page mark w)
  go_enter Try.func11, Try.ntmps11
  go_upto_region 1 with fail
  generalize (((w.alloc (.cells #[.int .i64 page] 3)).alloc (.cells #[.int .i64 mark] 3)).alloc (.cells #[.int .i64 0, .int .i64 0] 29)) = w3 at *
  generalize hD : w.heap.size = D at *
  have HD := Lib.hid hD
  clear hD
  obtain ⟨p3, m3, x0, x1, xf0, xf1⟩ := X0.out.1
  go_wp2_with fail
  refine bodyPost_ret (v := .tuple #[zblk, .int .i64 1]) (by simp [results, Try.results11, go_sem, x0, x1, xf0, xf1, zblk]) rfl ⟨rfl, ?_⟩
  first | (rw [HD.out]; exact X0.out.2.1) | (refine Below.setCell ?_ (by simp [HD.out]; omega) _; refine Below.setCell ?_ (by simp [HD.out]; omega) _; rw [HD.out]; exact X0.out.2.1)

set_option maxHeartbeats 2000000 in
theorem Next_arg (page mark : Int) (t : Nat) (w : World) (h : ¬ (-1 ≤ mark ∧ mark < 3)) : Calls Try.prog 11 #[.pointer (some ⟨t, 0, none⟩), .int .i64 page, .int .i64 mark] w fun e w' => e = .returned (.tuple #[zblk, .int .i64 2]) ∧ Below w.heap.size w w' := by
  have X0 := Lib.hid (boxes page mark w)
  go_enter Try.func11, Try.ntmps11
  go_upto_region 1 with fail
  generalize (((w.alloc (.cells #[.int .i64 page] 3)).alloc (.cells #[.int .i64 mark] 3)).alloc (.cells #[.int .i64 0, .int .i64 0] 29)) = w3 at *
  generalize hD : w.heap.size = D at *
  have HD := Lib.hid hD
  clear hD
  obtain ⟨p3, m3, x0, x1, xf0, xf1⟩ := X0.out.1
  by_cases c1 : mark < -1
  · go_wp2_with fail
    refine bodyPost_ret (v := .tuple #[zblk, .int .i64 2]) (by simp [results, Try.results11, go_sem, x0, x1, xf0, xf1, zblk]) rfl ⟨rfl, ?_⟩
    first | (rw [HD.out]; exact X0.out.2.1) | (refine Below.setCell ?_ (by simp [HD.out]; omega) _; refine Below.setCell ?_ (by simp [HD.out]; omega) _; rw [HD.out]; exact X0.out.2.1)
  · have c2 : 3 ≤ mark := by omega
    go_wp2_with fail
    refine bodyPost_ret (v := .tuple #[zblk, .int .i64 2]) (by simp [results, Try.results11, go_sem, x0, x1, xf0, xf1, zblk]) rfl ⟨rfl, ?_⟩
    first | (rw [HD.out]; exact X0.out.2.1) | (refine Below.setCell ?_ (by simp [HD.out]; omega) _; refine Below.setCell ?_ (by simp [HD.out]; omega) _; rw [HD.out]; exact X0.out.2.1)

/-- What Next tells. -/
def NxT (L : List X) (page mark : Int) (r0 r1 : Int) (ok : Bool) : Prop :=
  (ok = true ∧ ∃ x ∈ L, OkX page mark x ∧ (∀ y ∈ L, OkX page mark y → x.p ≤ y.p) ∧ r0 = (x.p : Nat) ∧ r1 = 3 * ((x.k : Nat) : Int)) ∨ (ok = false ∧ ∀ y ∈ L, ¬ OkX page mark y)
theorem nx_root {σ : St} {L : List X} {t : Nat} {many nodes : Int} {F : List Nat} {page mark : Int} {A3 A4 A5 : Nat} {w2 : World} {ch : Option Nat} (hab : Ab σ L) (hgd : Good L) (hmk : -1 ≤ mark ∧ mark < 3)
    (hch : σ.N 3 0 = ch) (h : Hp w2 t σ many nodes F) (h3 : w2.cell? ⟨A3, 0, none⟩ = some (.int .i64 page)) (h4 : w2.cell? ⟨A4, 0, none⟩ = some (.int .i64 mark)) (h5 : w2.cell? ⟨A5, 0, none⟩ = some (nxV A3 A4 A5)) :
    ∀ W, Below w2.heap.size w2 W → Calls Try.prog 30 #[pt ch, .int .i64 0, .int .i64 3, .pointer (some ⟨A3, 0, none⟩), .pointer (some ⟨A4, 0, none⟩), .pointer (some ⟨A5, 0, none⟩)] W fun e w' => Below W.heap.size W w' ∧ ∃ r0 r1 ok, e = .returned (.tuple #[.agg #[.int .i64 r0, .int .i64 r1], .bool ok]) ∧ NxT L page mark r0 r1 ok := by
  intro W hW
  have hin : ∀ y ∈ L, InN y 3 0 := fun y hy => ⟨by have := (hgd.1 y hy).1; omega, by have := (hgd.1 y hy).lt; show y.p / 4096 = 0; omega⟩
  cases ch with
  | none =>
    refine (nx_nil _ _ _ _ _ W).mono fun e w' ⟨he, hb⟩ => ⟨hb, 0, 0, false, he, .inr ⟨rfl, fun y hy => ?_⟩⟩
    have := (hab.n 3 0).2 ⟨Nat.le_refl _, y, hy, (hin y hy).1, (hin y hy).2⟩
    obtain ⟨c, hc⟩ := this
    rw [hch] at hc
    cases hc
  | some c =>
    have hC := nx_any page mark A3 A4 A5 t σ L many nodes F hab hgd hmk 3 0 c W (Nat.le_refl _) (by decide) hch (h.below hW) (cell_keep hW h3) (cell_keep hW h4) (cell_keep hW h5)
    refine Calls.mono (show Calls Try.prog 30 #[pt (some c), .int .i64 0, .int .i64 3, .pointer (some ⟨A3, 0, none⟩), .pointer (some ⟨A4, 0, none⟩), .pointer (some ⟨A5, 0, none⟩)] W _ from hC) fun e w' ⟨hb, hn⟩ => ⟨hb, ?_⟩
    rcases hn with ⟨x, hx, h1, h2, h3, rfl⟩ | ⟨h1, rfl⟩
    · exact ⟨_, _, true, rfl, .inl ⟨rfl, x, hx, h2, fun y hy g => h3 y hy (hin y hy) g, rfl, rfl⟩⟩
    · exact ⟨_, _, false, rfl, .inr ⟨rfl, fun y hy => h1 y hy (hin y hy)⟩⟩
set_option maxRecDepth 100000 in
set_option maxHeartbeats 8000000 in
theorem Next_any (page mark : Int) (t : Nat) (σ : St) (L : List X) (many nodes : Int) (F : List Nat) (w : World) (hm : -1 ≤ mark ∧ mark < 3) (hab : Ab σ L) (hgd : Good L) (h : Hp w t σ many nodes F) :
    Calls Try.prog 11 #[.pointer (some ⟨t, 0, none⟩), .int .i64 page, .int .i64 mark] w fun e w' => Below w.heap.size w w' ∧ ((∃ x ∈ L, OkX page mark x ∧ (∀ y ∈ L, OkX page mark y → x.p ≤ y.p) ∧ e = .returned (.tuple #[.agg #[.int .i64 ((x.p : Nat) : Int), .int .i64 (3 * ((x.k : Nat) : Int))], .int .i64 0])) ∨ ((∀ y ∈ L, ¬ OkX page mark y) ∧ e = .returned (.tuple #[zblk, .int .i64 6]))) := by
  have HH := Lib.hid h
  have HAB := Lib.hid (And.intro hab hgd)
  clear hab hgd h
  have X0 := Lib.hid (boxes page mark w)
  go_enter Try.func11, Try.ntmps11
  go_upto_region 1 with fail
  generalize (((w.alloc (.cells #[.int .i64 page] 3)).alloc (.cells #[.int .i64 mark] 3)).alloc (.cells #[.int .i64 0, .int .i64 0] 29)) = w3 at *
  generalize hD : w.heap.size = D at *
  have HD := Lib.hid hD
  clear hD
  obtain ⟨p3, m3, x0, x1, xf0, xf1⟩ := X0.out.1
  have c1 : ¬ (mark < -1) := by omega
  have c2 : ¬ (3 ≤ mark) := by omega
  go_upto_region 6 with fail
  have hzf := heap_alloc_new w3 (.cells #[.nilFunc] 60)
  have hBA : Below w3.heap.size w3 (w3.alloc (.cells #[.nilFunc] 60)) := (Below.refl _ _).alloc (Nat.le_refl _) _
  have n0 : (w3.alloc (.cells #[.nilFunc] 60)).cell? ⟨w3.heap.size, 0, none⟩ = some .nilFunc := cell_of_row _ _ 0 _ 60 _ hzf
  have n1 : (w3.alloc (.cells #[.nilFunc] 60)).frozen? ⟨w3.heap.size, 0, none⟩ = false := frozen_of_row _ _ 0 _ 60 hzf
  have hsf : ∀ (a : Addr) (fn : Fn) (first cap : Array Value) (w : World), (store a (.func fn first cap)).run Try.prog w = stored Try.prog w a (.func fn first cap) .plain := fun a fn first cap w => run_store Try.prog w a _ .plain rfl
  obtain ⟨A5, hA5⟩ : ∃ A5, w3.heap.size = A5 := ⟨_, rfl⟩
  have hrow5 : (w3.alloc (.cells #[nxV D (D + 1) A5] 60)).heap[A5]? = some (.cells #[nxV D (D + 1) A5] 60 (0, 0)) := by rw [← hA5]; exact heap_alloc_new _ _
  have hB4 : Below w3.heap.size w3 (w3.alloc (.cells #[nxV D (D + 1) A5] 60)) := (Below.refl _ _).alloc (Nat.le_refl _) _
  have H4 := Lib.hid (And.intro hB4 (And.intro hrow5 hA5))
  rw [hA5] at n0 n1
  clear hB4 hrow5 hzf hBA
  rw [hA5]
  go_upto_region 7 with fail
  clear hsf n0 n1 p3 m3 x0 x1 xf0 xf1
  have HN0 := Lib.hid (show Below D w (w3.alloc (.cells #[nxV D (D + 1) A5] 60)) from X0.out.2.1.trans (H4.out.1.mono (by have := X0.out.2.2; omega)))
  generalize w3.alloc (.cells #[nxV D (D + 1) A5] 60) = w2 at *
  have p3 := cell_keep H4.out.1 X0.out.1.1
  have m3 := cell_keep H4.out.1 X0.out.1.2.1
  have x0 := cell_keep H4.out.1 X0.out.1.2.2.1
  have x1 := cell_keep H4.out.1 X0.out.1.2.2.2.1
  have hs3 := X0.out.2.2
  have xf0 : w2.frozen? ⟨D + 1 + 1, 0, none⟩ = false := (H4.out.1.frozen (by show D + 1 + 1 < w3.heap.size; omega)).trans X0.out.1.2.2.2.2.1
  have xf1 : w2.frozen? ⟨D + 1 + 1, 1, none⟩ = false := (H4.out.1.frozen (by show D + 1 + 1 < w3.heap.size; omega)).trans X0.out.1.2.2.2.2.2
  have f5 : w2.cell? ⟨A5, 0, none⟩ = some (nxV D (D + 1) A5) := cell_of_row _ _ 0 _ 60 _ H4.out.2.1
  have hw2 := H4.out.1.size
  have H2 := Lib.hid (HH.out.below (show Below w.heap.size w w2 from by rw [HD.out]; exact HN0.out))
  obtain ⟨t0, _, _, _⟩ := H2.out.tcells
  obtain ⟨ch, hch⟩ : ∃ ch, σ.N 3 0 = ch := ⟨_, rfl⟩
  have HCL := Lib.hid (nx_root HAB.out.1 HAB.out.2 hm hch H2.out p3 m3 f5)
  rw [hch] at t0
  have hD2 : Below w2.heap.size w2 w2.drew := (Below.refl _ _).drew
  have HDD := Lib.hid (And.intro hD2 (hD2.alloc (Nat.le_refl _) (.cells #[.int .i64 0, .int .i64 0] 29)))
  have hzn := heap_alloc_new w2.drew (.cells #[.int .i64 0, .int .i64 0] 29)
  have HZ := Lib.hid (show (w2.drew.alloc (.cells #[.int .i64 0, .int .i64 0] 29)).cell? ⟨w2.heap.size, 0, none⟩ = some (.int .i64 0) ∧ (w2.drew.alloc (.cells #[.int .i64 0, .int .i64 0] 29)).cell? ⟨w2.heap.size, 1, none⟩ = some (.int .i64 0) ∧ (w2.drew.alloc (.cells #[.int .i64 0, .int .i64 0] 29)).frozen? ⟨w2.heap.size, 0, none⟩ = false ∧ (w2.drew.alloc (.cells #[.int .i64 0, .int .i64 0] 29)).frozen? ⟨w2.heap.size, 1, none⟩ = false ∧ w2.heap.size < (w2.drew.alloc (.cells #[.int .i64 0, .int .i64 0] 29)).heap.size from ⟨cell_of_row _ _ 0 _ 29 _ hzn, cell_of_row _ _ 1 _ 29 _ hzn, frozen_of_row _ _ 0 _ 29 hzn, frozen_of_row _ _ 1 _ 29 hzn, lt_of_block hzn⟩)
  have HDW := Lib.hid (show D + 1 + 1 < w2.heap.size from by omega)
  have hA5l : A5 < w2.heap.size := World.block_lt_of_cell? w2 _ f5
  have htl : t < w2.heap.size := World.block_lt_of_cell? w2 _ t0
  have n1 : A5 ≠ w2.heap.size := by omega
  have n2 : t ≠ w2.heap.size := by omega
  have HX := Lib.hid (And.intro x0 (And.intro x1 (And.intro xf0 xf1)))
  clear hch hD2 hzn hA5l htl p3 m3 x0 x1 xf0 xf1 hs3 hw2 c1 c2
  generalize pt ch = cv at *
  go_cut [9, 10] (fun s9 s10 wx => ∃ B : Nat, s9 = .pointer (some ⟨B, 0, none⟩) ∧ ∃ ok : Bool, s10 = .bool ok ∧ ∃ r0 r1, RowKit.Hid (wx.cell? ⟨B, 0, none⟩ = some (.int .i64 r0) ∧ wx.cell? ⟨B, 1, none⟩ = some (.int .i64 r1) ∧ Below w2.heap.size w2 wx ∧ NxT L page mark r0 r1 ok))
  case first =>
    go_region_held3 (fun w' => w'.cell? ⟨A5, 0, none⟩ = some (nxV D (D + 1) A5) ∧ w'.cell? ⟨t, 0, none⟩ = some cv) (first | exact ⟨ha5, hbs⟩ | exact ⟨cell_alloc ha5 _, cell_alloc hbs _⟩ | exact ⟨cell_far ha5 n1, cell_far hbs n2⟩ | go_keep) (first
      | (go_at_call 30; refine Calls.mono (HCL.out _ HDD.out.1) ?_; rintro e w5 ⟨hb5, r0, r1, ok, rfl, hr⟩; have ha5 := cell_keep hb5 (cell_keep HDD.out.1 f5); have hbs := cell_keep hb5 (cell_keep HDD.out.1 t0); have n3 : A5 ≠ w5.heap.size := (by have h1 := World.block_lt_of_cell? w5 _ ha5; simp at h1; omega); have n4 : t ≠ w5.heap.size := (by have h1 := World.block_lt_of_cell? w5 _ hbs; simp at h1; omega))
      | (go_at_call 30; refine Calls.mono (HCL.out _ HDD.out.2) ?_; rintro e w5 ⟨hb5, r0, r1, ok, rfl, hr⟩; have ha5 := cell_keep hb5 (cell_keep HDD.out.2 f5); have hbs := cell_keep hb5 (cell_keep HDD.out.2 t0); have n3 : A5 ≠ w5.heap.size := (by have h1 := World.block_lt_of_cell? w5 _ ha5; simp at h1; omega); have n4 : t ≠ w5.heap.size := (by have h1 := World.block_lt_of_cell? w5 _ hbs; simp at h1; omega); have z0 := cell_keep hb5 HZ.out.1; have z1 := cell_keep hb5 HZ.out.2.1; have zf0 := (hb5.frozen HZ.out.2.2.2.2).trans HZ.out.2.2.1; have zf1 := (hb5.frozen HZ.out.2.2.2.2).trans HZ.out.2.2.2.1))
    all_goals (
      have HR := Lib.hid hr
      clear hr
      go_wp2_with fail
      go_meet
      first
        | exact ⟨_, rfl, ok, rfl, r0, r1, Lib.hid (mk_alloc HDD.out.1 hb5 HR.out)⟩
        | exact ⟨_, rfl, ok, rfl, r0, r1, Lib.hid (mk_set HDD.out.2 hb5 z0 z1 (Nat.le_refl _) HR.out)⟩)
  case rest =>
    obtain ⟨B, rfl, ok, rfl, r0, r1, HR⟩ := hcut
    have v0 := HR.out.1
    have v1 := HR.out.2.1
    have hbc2 := HR.out.2.2.1
    have x0 := cell_keep hbc2 HX.out.1
    have x1 := cell_keep hbc2 HX.out.2.1
    have xf0 := (hbc2.frozen HDW.out).trans HX.out.2.2.1
    have xf1 := (hbc2.frozen HDW.out).trans HX.out.2.2.2
    have HB7 := Lib.hid (HN0.out.trans (hbc2.mono (by have := HDW.out; omega)))
    clear hbc2 f5 t0
    rcases HR.out.2.2.2 with ⟨rfl, hr⟩ | ⟨rfl, hr⟩
    · have HRR := Lib.hid hr
      clear hr
      go_wp2_with fail
      obtain ⟨x, hx, hok, hmin, rfl, rfl⟩ := HRR.out
      refine bodyPost_ret (v := .tuple #[.agg #[.int .i64 ((x.p : Nat) : Int), .int .i64 (3 * ((x.k : Nat) : Int))], .int .i64 0]) (by simp [results, Try.results11, go_sem, x0, x1, xf0, xf1]) rfl ⟨?_, .inl ⟨x, hx, hok, hmin, rfl⟩⟩
      refine Below.setCell ?_ (by simp [HD.out]; omega) _
      refine Below.setCell ?_ (by simp [HD.out]; omega) _
      rw [HD.out]
      exact HB7.out
    · have HRR := Lib.hid hr
      clear hr
      go_wp2_with fail
      refine bodyPost_ret (v := .tuple #[zblk, .int .i64 6]) (by simp [results, Try.results11, go_sem, x0, x1, xf0, xf1, zblk]) rfl ⟨?_, .inr ⟨HRR.out, rfl⟩⟩
      first | (rw [HD.out]; exact HB7.out) | (refine Below.setCell ?_ (by simp [HD.out]; omega) _; refine Below.setCell ?_ (by simp [HD.out]; omega) _; rw [HD.out]; exact HB7.out)

end Go.Proofs.Ytdnnfoojdfmajaa
