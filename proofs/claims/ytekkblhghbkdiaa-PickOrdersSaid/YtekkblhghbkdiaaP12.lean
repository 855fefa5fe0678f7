/- Parts of the proofs of layer 6 (pick): contracts of its functions, and the laws' walks. -/
import Derived.Test.YtekkblhghbkdiaaProg
import Derived.WalkKit
import Derived.WalkSpells
import Derived.WalkLawsBesides
import Derived.BigQuiet
import Derived.Deep.QuietTactic
import Derived.Lib.Hide
import Derived.Deep.RegionHeld3
import Derived.Deep.DeepCutAuto
import Derived.KernelRfl
import Derived.Deep.OwnRows
import Derived.Laws.CopyOwn
import Derived.Laws.CopyRow
import Derived.StillTailTactics
import Derived.Deep.RegionLaw
import Derived.Test.YtekkblhghbkdiaaP10
import Derived.Test.YtekkblhghbkdiaaP11
namespace Go.Proofs.Ytekkblhghbkdiaa
open Go.RowKit
set_option linter.unusedVariables false
set_option linter.unusedSimpArgs false

theorem rmv_perm {L : List E} (h : L.Pairwise fun a b => a.f ≠ b.f) {i : Nat} (hi : i < L.length) : (rmv L i).Perm (wo (g L i).f L) := by
  have h1 : (moved L i).Perm L := by
    unfold moved
    split
    · exact .refl _
    · exact (fix_perm (L.length - 1) (swp L i (L.length - 1)) i (by omega) (by rw [swp_length]; omega)).1.trans (swp_perm hi (by omega))
  rw [← rmv_concat hi] at h1
  have h2 := (List.perm_append_singleton (g L i) (rmv L i)).symm.trans (h1.trans (self_perm h hi))
  exact h2.cons_inv
theorem rmv_length {L : List E} {i : Nat} (hi : i < L.length) : (rmv L i).length = L.length - 1 := by unfold rmv; rw [List.length_dropLast, moved_length hi]
theorem rmv_heap {L : List E} (h : Hp L L.length) {i : Nat} (hi : i < L.length) : Hp (rmv L i) (rmv L i).length := by
  have h1 : Hp (moved L i) (L.length - 1) := by
    unfold moved
    split
    · exact hp_less h (by omega)
    · rename_i hne
      refine fix_heap (L.length - 1) (swp L i (L.length - 1)) i (by omega) (by rw [swp_length]; omega) (ah_congr (ah_set (hp_less h (by omega : L.length - 1 ≤ L.length)) (g L (L.length - 1)) (by omega)) (by omega) fun k hk => ?_)
      rw [swp_get hi (by omega), if_neg (by omega), g_set hi]
  rw [rmv_length hi]
  refine hp_congr h1 fun k hk => ?_
  have : g (rmv L i ++ [g L i]) k = g (rmv L i) k := g_append_lt (by rw [rmv_length hi]; exact hk)
  rw [← this, rmv_concat hi]
/-- The heap, M: what it holds. -/
def PH (w : World) (p : Nat) (F : List Nat) (M : List E) : Prop := ∃ L, Pk w p F L ∧ Hp L L.length ∧ L.Perm M
theorem PH.lt {w : World} {p : Nat} {F : List Nat} {M : List E} (h : PH w p F M) : ∀ b, b ∈ F → b < w.heap.size := by obtain ⟨L, h, _⟩ := h; exact h.lt
theorem PH.chg {w w' : World} {p : Nat} {F G G' : List Nat} {M : List E} (h : PH w p F M) (hc : Chg G G' w w') (hs : Sep F G) : PH w' p F M := by
  obtain ⟨L, h, r⟩ := h; exact ⟨L, h.chg hc hs, r⟩
theorem PH.below {w w' : World} {p : Nat} {F : List Nat} {M : List E} (h : PH w p F M) (hc : Below w.heap.size w w') : PH w' p F M := by
  obtain ⟨L, h, r⟩ := h; exact ⟨L, h.below hc, r⟩
theorem PH.drew {w : World} {p : Nat} {F : List Nat} {M : List E} (h : PH w p F M) : PH w.drew p F M := by obtain ⟨L, h, r⟩ := h; exact ⟨L, h.drew, r⟩
theorem PH.drewN {w : World} {p : Nat} {F : List Nat} {M : List E} (h : PH w p F M) (k : Nat) : PH (w.drewN k) p F M := by obtain ⟨L, h, r⟩ := h; exact ⟨L, h.drewN k, r⟩
theorem PH.perm {w : World} {p : Nat} {F : List Nat} {M N : List E} (h : PH w p F M) (hp : M.Perm N) : PH w p F N := by obtain ⟨L, h, h1, h2⟩ := h; exact ⟨L, h, h1, h2.trans hp⟩
theorem Put_nil (f x : Int) (w : World) : Calls Try.prog 11 #[.pointer none, .int .i64 f, .int .i64 x] w fun e w' => e = .returned (.int .i64 1) ∧ w = w' := by
  go_enter Try.func11, Try.ntmps11
  go_wp2
  go_ret
  exact ⟨rfl, rfl⟩
theorem Len_nil (w : World) : Calls Try.prog 13 #[.pointer none] w fun e w' => e = .returned (.int .i64 0) ∧ w = w' := by
  go_enter Try.func13, Try.ntmps13
  go_wp2
  go_ret
  exact ⟨rfl, rfl⟩
theorem First_nil (w : World) : Calls Try.prog 19 #[.pointer none] w fun e w' => e = .returned (.tuple #[.int .i64 0, .int .i64 0, .int .i64 1]) ∧ w = w' := by
  go_enter Try.func19, Try.ntmps19
  go_wp2
  go_returns
  exact ⟨rfl, rfl⟩
theorem find_nil (f : Int) (w : World) : Calls Try.prog 24 #[.pointer none, .int .i64 f] w fun e w' => e = .returned (.tuple #[.int .i64 0, .int .i64 1]) ∧ w = w' := by
  go_enter Try.func24, Try.ntmps24
  go_wp2
  go_returns
  exact ⟨rfl, rfl⟩

theorem Worth_nil (f : Int) (w : World) : Calls Try.prog 20 #[.pointer none, .int .i64 f] w fun e w' => e = .returned (.tuple #[.int .i64 0, .int .i64 1]) ∧ w = w' := by
  go_enter Try.func20, Try.ntmps20
  go_wp2_with fail
  refine (find_nil f w).mono ?_
  rintro e w1 ⟨rfl, rfl⟩
  go_wp2_with fail
  go_returns
  exact ⟨rfl, rfl⟩
theorem Drop_nil (f : Int) (w : World) : Calls Try.prog 17 #[.pointer none, .int .i64 f] w fun e w' => e = .returned (.int .i64 1) ∧ w = w' := by
  go_enter Try.func17, Try.ntmps17
  go_wp2_with fail
  refine (find_nil f w).mono ?_
  rintro e w1 ⟨rfl, rfl⟩
  go_wp2_with fail
  go_ret
  exact ⟨rfl, rfl⟩
theorem Pop_nil (w : World) : Calls Try.prog 14 #[.pointer none] w fun e w' => e = .returned (.tuple #[.int .i64 0, .int .i64 0, .int .i64 1]) ∧ w = w' := by
  go_enter Try.func14, Try.ntmps14
  go_wp2_with fail
  refine (First_nil w).mono ?_
  rintro e w1 ⟨rfl, rfl⟩
  go_wp2_with fail
  go_returns
  exact ⟨rfl, rfl⟩
theorem New_any (w : World) : Calls Try.prog 9 #[] w fun e w' => ∃ p F, e = .returned (.pointer (some ⟨p, 0, none⟩)) ∧ Chg [] F w w' ∧ PH w' p F [] := by
  have hmm := @run_makeMap Try.prog
  go_enter Try.func9, Try.ntmps9
  go_wp2
  go_ret
  refine ⟨w.heap.size + 1, [w.heap.size + 1, w.heap.size], rfl, ?_, [], ⟨⟨fun _ => none, ⟨.slice none 0 0, w.heap.size, ?_, Sq.nil _ _ _, ?_, rfl, by omega, by simp [vblk_nil], by simp [vblk_nil]⟩, isPos_nil⟩, by intro e he; simp at he, by simp⟩, fun j h0 hj => by simp at hj, .refl _⟩
  · have hb : Below w.heap.size w ((w.alloc (.map #[] 0)).alloc (.cells #[.slice none 0 0, .map (some w.heap.size), lsV] 59)) := ((Below.refl _ _).alloc (Nat.le_refl _) _).alloc (by simp) _
    exact ⟨hb.os, hb.tape, hb.output, hb.size, fun b hb' _ => hb.block b hb', fun b hb' => .inr (by simp at hb'; omega)⟩
  · have := heap_alloc_new (w.alloc (.map #[] 0)) (.cells #[.slice none 0 0, .map (some w.heap.size), lsV] 59)
    rw [show (w.alloc (.map #[] 0)).heap.size = w.heap.size + 1 by simp] at this
    exact this
  · have hb : Below (w.alloc (.map #[] 0)).heap.size (w.alloc (.map #[] 0)) ((w.alloc (.map #[] 0)).alloc (.cells #[.slice none 0 0, .map (some w.heap.size), lsV] 59)) := (Below.refl _ _).alloc (Nat.le_refl _) _
    exact (MX.made w).of_block (hb.block _ (MX.made w).lt)
theorem find_any (p : Nat) (F : List Nat) (L : List E) (f : Int) (w : World) (h : Pk w p F L) (hf : wf f) :
    Calls Try.prog 24 #[.pointer (some ⟨p, 0, none⟩), .int .i64 f] w fun e w' => w = w' ∧ ((∃ i : Nat, i < L.length ∧ (g L i).f = f ∧ e = .returned (.tuple #[.int .i64 (i : Nat), .int .i64 0])) ∨ ((∀ e ∈ L, e.f ≠ f) ∧ e = .returned (.tuple #[.int .i64 0, .int .i64 6]))) := by
  obtain ⟨⟨φ, h, hp⟩, hw, hm⟩ := h
  obtain ⟨ao, cap, b, c0, c1, c2, fz, ht, hmx, _⟩ := h.cells
  have hlk := hmx.look hf
  clear h ht hmx c0 c2 fz hw
  cases hφ : φ f with
  | none =>
    have HN := Lib.hid (hp.none.1 hφ)
    rw [hφ] at hlk
    simp only [Option.getD_none, Option.isSome_none] at hlk
    clear hp hφ
    go_enter Try.func24, Try.ntmps24
    go_wp2_with fail
    go_returns
    exact ⟨rfl, .inr ⟨HN.out, rfl⟩⟩
  | some v =>
    obtain ⟨i, hi, he, rfl⟩ := (hp f v).1 hφ
    rw [hφ] at hlk
    simp only [Option.getD_some, Option.isSome_some] at hlk
    have HN := Lib.hid he
    clear hp hφ he
    go_enter Try.func24, Try.ntmps24
    go_wp2_with fail
    go_returns
    exact ⟨rfl, .inl ⟨i, hi, HN.out, rfl⟩⟩

end Go.Proofs.Ytekkblhghbkdiaa
