/- Parts of the proofs of layer 3 (geo): contracts of its functions, and the laws' walks. -/
import Derived.Test.YtnpcpgjaffpnjaaProg
import Derived.WalkKit
import Derived.WalkSpells
import Derived.WalkLawsBesides
import Derived.BigQuiet
import Derived.Deep.QuietTactic
import Derived.Lib.Hide
import Derived.Deep.RegionHeld3
import Derived.Deep.DeepCutAuto
import Derived.KernelRfl
import Derived.Test.YtnpcpgjaffpnjaaG3
namespace Go.Proofs.Ytnpcpgjaffpnjaa
open Go.RowKit
set_option linter.unusedVariables false
set_option linter.unusedSimpArgs false

def dok (x : Int) : Bool := decide (0 ≤ x ∧ x < 8)
def pgv (zs : List Int) : Int :=
  match zs with
  | [a, b, c, d] => if (dok a && dok b && dok c && dok d) = true then a * 512 + b * 64 + c * 8 + d else 0
  | _ => 0
def pge (zs : List Int) : Int :=
  match zs with
  | [a, b, c, d] => if (dok a && dok b && dok c && dok d) = true then 0 else 2
  | _ => 2
theorem pg_no {zs : List Int} (h : zs.length ≠ 4) : pgv zs = 0 ∧ pge zs = 2 := by
  match zs, h with
  | [], _ => exact ⟨rfl, rfl⟩
  | [_], _ => exact ⟨rfl, rfl⟩
  | [_, _], _ => exact ⟨rfl, rfl⟩
  | [_, _, _], _ => exact ⟨rfl, rfl⟩
  | [_, _, _, _], h => exact absurd rfl h
  | _ :: _ :: _ :: _ :: _ :: _, _ => exact ⟨rfl, rfl⟩
theorem len4 {zs : List Int} (h : zs.length = 4) : ∃ a b c d, zs = [a, b, c, d] := by
  match zs, h with
  | [a, b, c, d], _ => exact ⟨a, b, c, d, rfl⟩
theorem ret2_eq {a b c : Int} (h : a = b) : Ending.returned (.tuple #[.int .i64 a, .int .i64 c]) = Ending.returned (.tuple #[.int .i64 b, .int .i64 c]) := by rw [h]
theorem pg_vals (a b c d : Int) : (dok a = true → dok b = true → dok c = true → dok d = true → pgv [a, b, c, d] = a * 512 + b * 64 + c * 8 + d ∧ pge [a, b, c, d] = 0) ∧ (dok a = false ∨ dok b = false ∨ dok c = false ∨ dok d = false → pgv [a, b, c, d] = 0 ∧ pge [a, b, c, d] = 2) := by
  refine ⟨fun h1 h2 h3 h4 => by simp [pgv, pge, h1, h2, h3, h4], fun h => ?_⟩
  rcases h with h | h | h | h <;> simp [pgv, pge, h]
set_option maxHeartbeats 4000000 in
theorem page_any (zs : List Int) (v : Value) (w : World) (h : RI w v zs) (hz : ∀ z ∈ zs, -9223372036854775808 ≤ z ∧ z < 9223372036854775808) : Calls Try.prog 11 #[v] w fun e w' => e = .returned (.tuple #[.int .i64 (pgv zs), .int .i64 (pge zs)]) ∧ w = w' := by
  by_cases hl : zs.length = 4
  · obtain ⟨a, b, c, d, rfl⟩ := len4 hl
    have ha := hz a (by simp)
    have hb := hz b (by simp)
    have hc := hz c (by simp)
    have hd := hz d (by simp)
    rcases RV.cases h (by omega) with ⟨h0, _⟩ | ⟨_, bb, oo, cap, rfl, hc1, hc2, hcell⟩
    · simp at h0
    · have c0 := hcell 0 (.int .i64 a) rfl
      have c1 := hcell 1 (.int .i64 b) rfl
      have c2 := hcell 2 (.int .i64 c) rfl
      have c3 := hcell 3 (.int .i64 d) rfl
      rw [Nat.add_zero] at c0
      clear hcell h hz hl
      simp only [List.length_cons, List.length_nil, Nat.reduceAdd] at *
      have R := pg_vals a b c d
      have HR := Lib.hid R
      clear R
      go_enter Try.func11, Try.ntmps11
      go_wp2
      refine wp_loop_rounds 5 ?_
      iterate 5 ((all_goals (try rw [rounds_succ])); go_wp2)
      all_goals
        have R := HR.out
        go_ret2
      all_goals first
        | (exact ⟨by rw [(R.1 (by simp [dok]; omega) (by simp [dok]; omega) (by simp [dok]; omega) (by simp [dok]; omega)).1, (R.1 (by simp [dok]; omega) (by simp [dok]; omega) (by simp [dok]; omega) (by simp [dok]; omega)).2]; exact ret2_eq (by omega), rfl⟩)
        | (exact ⟨by rw [(R.2 (.inl (by simp [dok]; omega))).1, (R.2 (.inl (by simp [dok]; omega))).2] <;> rfl, rfl⟩)
        | (exact ⟨by rw [(R.2 (.inr (.inl (by simp [dok]; omega)))).1, (R.2 (.inr (.inl (by simp [dok]; omega)))).2] <;> rfl, rfl⟩)
        | (exact ⟨by rw [(R.2 (.inr (.inr (.inl (by simp [dok]; omega))))).1, (R.2 (.inr (.inr (.inl (by simp [dok]; omega))))).2] <;> rfl, rfl⟩)
        | (exact ⟨by rw [(R.2 (.inr (.inr (.inr (by simp [dok]; omega))))).1, (R.2 (.inr (.inr (.inr (by simp [dok]; omega))))).2] <;> rfl, rfl⟩)
        | (go_show; sorry)
  · obtain ⟨e1, e2⟩ := pg_no hl
    rw [e1, e2]
    obtain ⟨ao, cap, rfl, hn, hm⟩ := h.slice
    unfold maxLen at hm
    have k0 : ((zs.length : Int) != 4) = true := by rw [bne_iff_ne]; omega
    clear hl
    go_enter Try.func11, Try.ntmps11
    go_wp2
    go_ret2
    exact ⟨rfl, rfl⟩
set_option maxHeartbeats 4000000 in
theorem rpage_any (zs : List Int) (v : Value) (w : World) (h : RI w v zs) (hz : ∀ z ∈ zs, -9223372036854775808 ≤ z ∧ z < 9223372036854775808) : Calls Try.prog 12 #[v] w fun e w' => e = .returned (.tuple #[.int .i64 (pgv zs), .int .i64 (pge zs)]) ∧ ∃ k, w' = w.drewN k := by
  by_cases hl : zs.length = 4
  · obtain ⟨a, b, c, d, rfl⟩ := len4 hl
    have ha := hz a (by simp)
    have hb := hz b (by simp)
    have hc := hz c (by simp)
    have hd := hz d (by simp)
    rcases RV.cases h (by omega) with ⟨h0, _⟩ | ⟨_, bb, oo, cap, rfl, hc1, hc2, hcell⟩
    · simp at h0
    · have c0 := hcell 0 (.int .i64 a) rfl
      have c1 := hcell 1 (.int .i64 b) rfl
      have c2 := hcell 2 (.int .i64 c) rfl
      have c3 := hcell 3 (.int .i64 d) rfl
      rw [Nat.add_zero] at c0
      clear hcell h hz hl
      simp only [List.length_cons, List.length_nil, Nat.reduceAdd] at *
      have R := pg_vals a b c d
      have HR := Lib.hid R
      clear R
      go_enter Try.func12, Try.ntmps12
      go_wp2
      refine wp_loop_rounds 5 ?_
      iterate 5 ((all_goals (try rw [rounds_succ])); go_wp2)
      all_goals (try (go_quiet (fail); go_wp2))
      all_goals
        have R := HR.out
        go_ret2
      all_goals first
        | (exact ⟨by rw [(R.1 (by simp [dok]; omega) (by simp [dok]; omega) (by simp [dok]; omega) (by simp [dok]; omega)).1, (R.1 (by simp [dok]; omega) (by simp [dok]; omega) (by simp [dok]; omega) (by simp [dok]; omega)).2]; exact ret2_eq (by omega), _, rfl⟩)
        | (exact ⟨by rw [(R.2 (.inl (by simp [dok]; omega))).1, (R.2 (.inl (by simp [dok]; omega))).2] <;> rfl, 0, rfl⟩)
        | (exact ⟨by rw [(R.2 (.inr (.inl (by simp [dok]; omega)))).1, (R.2 (.inr (.inl (by simp [dok]; omega)))).2] <;> rfl, 0, rfl⟩)
        | (exact ⟨by rw [(R.2 (.inr (.inr (.inl (by simp [dok]; omega))))).1, (R.2 (.inr (.inr (.inl (by simp [dok]; omega))))).2] <;> rfl, 0, rfl⟩)
        | (exact ⟨by rw [(R.2 (.inr (.inr (.inr (by simp [dok]; omega))))).1, (R.2 (.inr (.inr (.inr (by simp [dok]; omega))))).2] <;> rfl, 0, rfl⟩)
        | (go_show; sorry)
  · obtain ⟨e1, e2⟩ := pg_no hl
    rw [e1, e2]
    obtain ⟨ao, cap, rfl, hn, hm⟩ := h.slice
    unfold maxLen at hm
    have k0 : ((zs.length : Int) != 4) = true := by rw [bne_iff_ne]; omega
    clear hl
    go_enter Try.func12, Try.ntmps12
    go_wp2
    go_ret2
    exact ⟨rfl, 0, rfl⟩

end Go.Proofs.Ytnpcpgjaffpnjaa
