/- Parts of the proofs of layer 6 (pick): contracts of its functions, and the laws' walks. -/
import Derived.Test.YtekkblhghbkdiaaProg
import Derived.WalkKit
import Derived.WalkSpells
import Derived.WalkLawsBesides
import Derived.BigQuiet
import Derived.Deep.QuietTactic
import Derived.Lib.Hide
import Derived.Deep.RegionHeld3
import Derived.Deep.DeepCutAuto
import Derived.KernelRfl
import Derived.Deep.OwnRows
import Derived.Laws.CopyOwn
import Derived.Laws.CopyRow
import Derived.StillTailTactics
import Derived.Deep.RegionLaw
import Derived.Test.YtekkblhghbkdiaaP12
namespace Go.Proofs.Ytekkblhghbkdiaa
open Go.RowKit
set_option linter.unusedVariables false
set_option linter.unusedSimpArgs false

theorem PLen_any (p : Nat) (F : List Nat) (M : List E) (w : World) (h : PH w p F M) :
    Calls Try.prog 13 #[.pointer (some ⟨p, 0, none⟩)] w fun e w' => e = .returned (.int .i64 (M.length : Nat)) ∧ w = w' := by
  obtain ⟨L, ⟨⟨φ, h, hp⟩, hw, hm⟩, _, hpm⟩ := h
  rw [← hpm.length_eq]
  obtain ⟨ao, cap, b, c0, c1, c2, fz, ht, hmx, _⟩ := h.cells
  clear h ht hmx c1 c2 fz hw hp hpm
  go_enter Try.func13, Try.ntmps13
  go_wp2
  go_ret
  exact ⟨rfl, rfl⟩
/-- The first of them. -/
def IsFst (M : List E) (x : E) : Prop := x ∈ M ∧ ∀ e ∈ M, le x e
theorem First_any (p : Nat) (F : List Nat) (M : List E) (w : World) (h : PH w p F M) :
    Calls Try.prog 19 #[.pointer (some ⟨p, 0, none⟩)] w fun e w' => Below w.heap.size w w' ∧ ((M = [] ∧ e = .returned (.tuple #[.int .i64 0, .int .i64 0, .int .i64 6])) ∨ ∃ x, IsFst M x ∧ e = .returned (.tuple #[.int .i64 x.f, .int .i64 x.w, .int .i64 0])) := by
  obtain ⟨L, ⟨⟨φ, h, hp⟩, hw, hm⟩, hh, hpm⟩ := h
  by_cases h0 : L = []
  · subst h0
    have HE := Lib.hid (show M = [] from hpm.nil_eq.symm)
    obtain ⟨ao, cap, b, c0, c1, c2, fz, ht, hmx, _⟩ := h.cells
    clear h ht hmx c1 c2 fz hw hp hpm
    go_enter Try.func19, Try.ntmps19
    go_wp2
    go_returns
    exact ⟨Below.refl _ _, .inl ⟨HE.out, rfl⟩⟩
  · have hl : 0 < L.length := by cases L with | nil => exact absurd rfl h0 | cons a l => simp
    have HX := Lib.hid (show IsFst M (g L 0) from ⟨hpm.mem_iff.1 (mem_g.2 ⟨0, hl, rfl⟩), fun e he => by
      obtain ⟨j, hj, rfl⟩ := mem_g.1 (hpm.mem_iff.2 he)
      exact hp_first hh j hj⟩)
    obtain ⟨ao, cap, b, c0, c1, c2, fz, ht, hmx, _⟩ := h.cells
    obtain ⟨bk, cap', hv, hnc, hcm, hb, hcell, hff⟩ := ht.read h0
    cases hv
    obtain ⟨i0, i1⟩ := hcell 0 _ (get_g hl)
    rw [Nat.zero_mul] at i0 i1
    have hne : ((L.length : Nat) : Int) ≠ 0 := by omega
    have hlI : (0 : Int) < ((L.length : Nat) : Int) := by omega
    generalize g L 0 = x at *
    clear h ht hmx c1 c2 fz hw hp hpm hcell hff hh h0
    go_enter Try.func19, Try.ntmps19
    go_wp2_with fail
    go_region
    all_goals (
      go_wp2
      go_returns
      exact ⟨(Below.refl _ _).drew, .inr ⟨x, HX.out, rfl⟩⟩)
theorem Worth_any (p : Nat) (F : List Nat) (M : List E) (f : Int) (w : World) (h : PH w p F M) (hf : wf f) :
    Calls Try.prog 20 #[.pointer (some ⟨p, 0, none⟩), .int .i64 f] w fun e w' => Below w.heap.size w w' ∧ (((∀ e ∈ M, e.f ≠ f) ∧ e = .returned (.tuple #[.int .i64 0, .int .i64 6])) ∨ ∃ x, x ∈ M ∧ x.f = f ∧ e = .returned (.tuple #[.int .i64 x.w, .int .i64 0])) := by
  obtain ⟨L, hk, hh, hpm⟩ := h
  have HF := Lib.hid (find_any p F L f w hk hf)
  obtain ⟨⟨φ, h, hp⟩, hw, hm⟩ := hk
  obtain ⟨ao, cap, b, c0, c1, c2, fz, ht, hmx, _⟩ := h.cells
  have HT := Lib.hid ht
  have HPM := Lib.hid hpm
  clear h hp hh ht hmx c1 c2 fz hpm hw
  go_enter Try.func20, Try.ntmps20
  go_wp2_with fail
  refine HF.out.mono ?_
  rintro e w1 ⟨rfl, he⟩
  rcases he with ⟨i, hi, hfi, rfl⟩ | ⟨hn, rfl⟩
  · obtain ⟨bk, cap', hv, hnc, hcm, hb, hcell, hff⟩ := HT.out.read (ne_nil_of_lt hi)
    cases hv
    obtain ⟨i0, i1⟩ := hcell i _ (get_g hi)
    have hiI : ((i : Nat) : Int) < ((L.length : Nat) : Int) := by omega
    have HX := Lib.hid (And.intro (show g L i ∈ M from HPM.out.mem_iff.1 (mem_g.2 ⟨i, hi, rfl⟩)) hfi)
    generalize g L i = x at *
    clear hcell hff hfi
    go_wp2_with fail
    first | go_still_tail 9, (by kernel_rfl) | skip
    go_wp2
    go_returns
    exact ⟨by first | exact Below.refl _ _ | exact (Below.refl _ _).drew, .inr ⟨x, HX.out.1, HX.out.2, rfl⟩⟩
  · have HN := Lib.hid (show ∀ e ∈ M, e.f ≠ f from fun e he => hn e (HPM.out.mem_iff.2 he))
    clear hn
    go_wp2
    go_returns
    exact ⟨Below.refl _ _, .inl ⟨HN.out, rfl⟩⟩

end Go.Proofs.Ytekkblhghbkdiaa
