/- Plain theorems for layer 6 (pick). -/
import Derived.Test.YtekkblhghbkdiaaP2
namespace Go.Proofs.Ytekkblhghbkdiaa
set_option linter.unusedVariables false
set_option linter.unusedSimpArgs false

theorem g_append_lt {L : List E} {x : E} {i : Nat} (h : i < L.length) : g (L ++ [x]) i = g L i := by
  unfold g; rw [List.getD_eq_getElem?_getD, List.getD_eq_getElem?_getD, List.getElem?_append_left h]
theorem g_append_eq {L : List E} {x : E} : g (L ++ [x]) L.length = x := by
  unfold g; rw [List.getD_eq_getElem?_getD]; simp
theorem g_set {L : List E} {i : Nat} {x : E} (h : i < L.length) (k : Nat) : g (L.set i x) k = if k = i then x else g L k := by
  unfold g
  rw [List.getD_eq_getElem?_getD, List.getD_eq_getElem?_getD]
  by_cases hk : k = i
  · subst hk; simp [h]
  · rw [if_neg hk, List.getElem?_set_ne (Ne.symm hk)]
theorem mem_g {L : List E} {e : E} : e ∈ L ↔ ∃ i, i < L.length ∧ g L i = e := by
  rw [List.mem_iff_getElem?]
  constructor
  · rintro ⟨i, hi⟩
    exact ⟨i, (List.getElem?_eq_some_iff.1 hi).1, g_of hi⟩
  · rintro ⟨i, hi, rfl⟩
    exact ⟨i, get_g hi⟩
/-- φ tells where each frame stands in L. -/
def IsPos (L : List E) (φ : Int → Option Int) : Prop := ∀ f v, φ f = some v ↔ ∃ i : Nat, i < L.length ∧ (g L i).f = f ∧ v = (i : Nat)
theorem IsPos.at {L : List E} {φ : Int → Option Int} (h : IsPos L φ) {i : Nat} (hi : i < L.length) : φ (g L i).f = some (i : Nat) := (h _ _).2 ⟨i, hi, rfl, rfl⟩
theorem IsPos.inj {L : List E} {φ : Int → Option Int} (h : IsPos L φ) {i j : Nat} (hi : i < L.length) (hj : j < L.length) (e : (g L i).f = (g L j).f) : i = j := by
  have h1 := h.at hi
  rw [e, h.at hj] at h1
  simp at h1
  omega
theorem IsPos.none {L : List E} {φ : Int → Option Int} (h : IsPos L φ) {f : Int} : φ f = none ↔ ∀ e ∈ L, e.f ≠ f := by
  constructor
  · intro hn e he hf
    obtain ⟨i, hi, rfl⟩ := mem_g.1 he
    rw [← hf, h.at hi] at hn
    cases hn
  · intro hn
    cases hφ : φ f with
    | none => rfl
    | some v =>
      obtain ⟨i, hi, hf, _⟩ := (h f v).1 hφ
      exact absurd hf (hn _ (mem_g.2 ⟨i, hi, rfl⟩))
theorem isPos_nil : IsPos [] (fun _ => none) := fun f v => ⟨fun h => (by cases h), fun ⟨i, hi, _⟩ => (by simp at hi)⟩
theorem IsPos.swp {L : List E} {φ : Int → Option Int} (h : IsPos L φ) {i j : Nat} (hi : i < L.length) (hj : j < L.length) (hij : i ≠ j) : IsPos (swp L i j) (upd (upd φ (g L j).f (some (i : Nat))) (g L i).f (some (j : Nat))) := by
  intro f v
  unfold upd
  have hne : (g L i).f ≠ (g L j).f := fun e => hij (h.inj hi hj e)
  rw [swp_length]
  constructor
  · intro hv
    split at hv
    · rename_i hf
      simp only [Option.some.injEq] at hv
      exact ⟨j, hj, by rw [swp_get hi hj, if_pos rfl]; exact hf.symm, hv.symm⟩
    · rename_i hf
      split at hv
      · rename_i hf2
        simp only [Option.some.injEq] at hv
        exact ⟨i, hi, by rw [swp_get hi hj, if_neg hij, if_pos rfl]; exact hf2.symm, hv.symm⟩
      · rename_i hf2
        obtain ⟨k, hk, e1, e2⟩ := (h f v).1 hv
        refine ⟨k, hk, ?_, e2⟩
        rw [swp_get hi hj, if_neg (fun e => hf2 (by rw [← e1, e])), if_neg (fun e => hf (by rw [← e1, e]))]
        exact e1
  · rintro ⟨k, hk, e1, rfl⟩
    rw [swp_get hi hj] at e1
    by_cases hkj : k = j
    · rw [if_pos hkj] at e1
      rw [if_pos e1.symm, hkj]
    · rw [if_neg hkj] at e1
      by_cases hki : k = i
      · rw [if_pos hki] at e1
        rw [if_neg (fun e => hne (e.symm.trans e1.symm)), if_pos e1.symm, hki]
      · rw [if_neg hki] at e1
        rw [if_neg (fun e => hki (h.inj hk hi (e1.trans e))), if_neg (fun e => hkj (h.inj hk hj (e1.trans e))), ← e1]
        exact h.at hk
theorem IsPos.push {L : List E} {φ : Int → Option Int} (h : IsPos L φ) {x : E} (hx : φ x.f = .none) : IsPos (L ++ [x]) (upd φ x.f (some (L.length : Nat))) := by
  intro f v
  unfold upd
  have hlen : (L ++ [x]).length = L.length + 1 := by simp
  rw [hlen]
  constructor
  · intro hv
    split at hv
    · rename_i hf
      simp only [Option.some.injEq] at hv
      exact ⟨L.length, by omega, by rw [g_append_eq]; exact hf.symm, hv.symm⟩
    · obtain ⟨i, hi, e1, e2⟩ := (h f v).1 hv
      exact ⟨i, by omega, by rw [g_append_lt hi]; exact e1, e2⟩
  · rintro ⟨i, hi, e1, rfl⟩
    by_cases hl : i < L.length
    · rw [g_append_lt hl] at e1
      rw [if_neg (fun e => by rw [← e, ← e1, h.at hl] at hx; cases hx), ← e1]
      exact h.at hl
    · obtain rfl : i = L.length := by omega
      rw [g_append_eq] at e1
      rw [if_pos e1.symm]
theorem IsPos.pop {L : List E} {φ : Int → Option Int} {x : E} (h : IsPos (L ++ [x]) φ) : IsPos L (upd φ x.f .none) := by
  intro f v
  unfold upd
  have hlen : (L ++ [x]).length = L.length + 1 := by simp
  constructor
  · intro hv
    split at hv
    · cases hv
    · rename_i hf
      obtain ⟨i, hi, e1, e2⟩ := (h f v).1 hv
      rw [hlen] at hi
      by_cases hl : i < L.length
      · exact ⟨i, hl, by rw [g_append_lt hl] at e1; exact e1, e2⟩
      · obtain rfl : i = L.length := by omega
        rw [g_append_eq] at e1
        exact absurd e1.symm hf
  · rintro ⟨i, hi, e1, rfl⟩
    have hne : f ≠ x.f := fun e => by
      have := h.inj (i := i) (j := L.length) (by omega) (by omega) (by rw [g_append_lt hi, g_append_eq, e1, e])
      omega
    rw [if_neg hne, ← e1, ← g_append_lt (x := x) hi]
    exact h.at (by omega)
theorem IsPos.setw {L : List E} {φ : Int → Option Int} (h : IsPos L φ) {i : Nat} (hi : i < L.length) (y : Int) : IsPos (L.set i ⟨(g L i).f, y⟩) φ := by
  have hg : ∀ k, (g (L.set i ⟨(g L i).f, y⟩) k).f = (g L k).f := fun k => by
    rw [g_set hi]
    split
    · rename_i e; rw [e]
    · rfl
  intro f v
  rw [h f v, List.length_set]
  exact ⟨fun ⟨k, h1, h2, h3⟩ => ⟨k, h1, by rw [hg]; exact h2, h3⟩, fun ⟨k, h1, h2, h3⟩ => ⟨k, h1, by rw [hg] at h2; exact h2, h3⟩⟩
/-- All frames are frames. -/
def Wl (L : List E) : Prop := ∀ e ∈ L, 0 ≤ e.f ∧ e.f ≤ 1023
theorem Wl.g {L : List E} (h : Wl L) {i : Nat} (hi : i < L.length) : 0 ≤ (g L i).f ∧ (g L i).f ≤ 1023 := h _ (mem_g.2 ⟨i, hi, rfl⟩)
theorem Wl.perm {L M : List E} (h : Wl L) (hp : M.Perm L) : Wl M := fun e he => h e (hp.mem_iff.1 he)

end Go.Proofs.Ytekkblhghbkdiaa
