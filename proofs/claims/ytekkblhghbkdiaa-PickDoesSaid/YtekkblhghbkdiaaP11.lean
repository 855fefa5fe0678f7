/- Plain theorems for layer 6 (pick). -/
import Derived.Test.YtekkblhghbkdiaaP7
namespace Go.Proofs.Ytekkblhghbkdiaa
set_option linter.unusedVariables false
set_option linter.unusedSimpArgs false

theorem nodup_le : ∀ (N : Nat) (l : List Int), l.Nodup → (∀ x ∈ l, 0 ≤ x ∧ x < (N : Nat)) → l.length ≤ N
  | 0, l, _, h => by
    cases l with
    | nil => simp
    | cons a l => have := h a (by simp); omega
  | N + 1, l, hn, h => by
    have h1 := nodup_le N (l.erase (N : Nat)) (hn.erase _) fun x hx => by
      have h2 := (hn.mem_erase_iff).1 hx
      have := h x h2.2
      have h3 := h2.1
      omega
    have h2 := List.length_erase (a := ((N : Nat) : Int)) (l := l)
    split at h2 <;> omega
theorem pw_of {L : List E} {φ : Int → Option Int} (h : IsPos L φ) : L.Pairwise fun a b => a.f ≠ b.f := by
  rw [List.pairwise_iff_getElem]
  intro i j hi hj hij e
  have := h.inj hi hj (by rw [g_of (List.getElem?_eq_getElem hi), g_of (List.getElem?_eq_getElem hj)]; exact e)
  omega
theorem len_le {L : List E} (h : L.Pairwise fun a b => a.f ≠ b.f) (hw : Wl L) : L.length ≤ 1024 := by
  have := nodup_le 1024 (L.map (·.f)) (by
    unfold List.Nodup
    rw [List.pairwise_map]
    exact h) (fun x hx => by
      obtain ⟨e, he, rfl⟩ := List.mem_map.1 hx
      have := hw e he
      exact ⟨this.1, Int.lt_of_le_of_lt this.2 (by decide)⟩)
  simpa using this
/-- All but one frame. -/
def wo (f : Int) (L : List E) : List E := L.filter fun e => decide (e.f ≠ f)
theorem mem_wo {f : Int} {L : List E} {e : E} : e ∈ wo f L ↔ e ∈ L ∧ e.f ≠ f := by unfold wo; rw [List.mem_filter, decide_eq_true_iff]
theorem wo_self {f : Int} {L : List E} (h : ∀ e ∈ L, e.f ≠ f) : wo f L = L := by
  unfold wo; exact List.filter_eq_self.2 fun e he => decide_eq_true (h e he)
theorem wo_perm {f : Int} {L M : List E} (h : L.Perm M) : (wo f L).Perm (wo f M) := h.filter _
theorem set_perm {L : List E} (h : L.Pairwise fun a b => a.f ≠ b.f) {i : Nat} (hi : i < L.length) {x : E} (hx : x.f = (g L i).f) : (L.set i x).Perm (x :: wo x.f L) := by
  have e1 : L = L.take i ++ g L i :: L.drop (i + 1) := by
    have h1 := (List.take_append_drop i L).symm
    rw [List.drop_eq_getElem_cons hi] at h1
    rw [g_of (List.getElem?_eq_getElem hi)]
    exact h1
  have e2 : L.set i x = L.take i ++ x :: L.drop (i + 1) := by rw [List.set_eq_take_append_cons_drop, if_pos hi]
  have hp := h
  rw [e1, List.pairwise_append] at hp
  obtain ⟨_, hp2, hp3⟩ := hp
  rw [List.pairwise_cons] at hp2
  have e3 : wo x.f L = L.take i ++ L.drop (i + 1) := by
    have hw : wo x.f (L.take i ++ g L i :: L.drop (i + 1)) = L.take i ++ L.drop (i + 1) := by
      unfold wo
      rw [List.filter_append, List.filter_cons, if_neg (by simp [hx])]
      rw [List.filter_eq_self.2 fun e he => decide_eq_true (by rw [hx]; exact hp3 e he _ (by simp)), List.filter_eq_self.2 fun e he => decide_eq_true (by rw [hx]; exact fun e' => hp2.1 e he e'.symm)]
    rw [← e1] at hw
    exact hw
  rw [e2, e3]
  exact List.perm_middle
theorem set_same {L : List E} {i : Nat} (hi : i < L.length) : L.set i (g L i) = L := by
  rw [g_of (List.getElem?_eq_getElem hi)]; exact List.set_getElem_self hi
theorem self_perm {L : List E} (h : L.Pairwise fun a b => a.f ≠ b.f) {i : Nat} (hi : i < L.length) : L.Perm (g L i :: wo (g L i).f L) := by
  have := set_perm h hi (x := g L i) rfl
  rw [set_same hi] at this
  exact this
theorem ah_congr {l m : List E} {n i : Nat} (h : AH l n i) (hi : i < n) (e : ∀ k, k < n → g m k = g l k) : AH m n i := by
  obtain ⟨h1, h2⟩ := h
  refine ⟨fun j h0 hj hP => ?_, fun h0 k hk hkn hp => ?_⟩
  · rw [e _ (by omega), e _ hj]; exact h1 j h0 hj hP
  · rw [e _ (by omega), e _ hkn]; exact h2 h0 k hk hkn hp
theorem push_heap {L : List E} (h : Hp L L.length) (x : E) : Hp (upf (L ++ [x]) L.length) (L ++ [x]).length := by
  have hlen : (L ++ [x]).length = L.length + 1 := by simp
  rw [hlen]
  refine upf_heap (L.length + 1) (L ++ [x]) L.length (by omega) (by omega) (fun j h0 hj hne => ?_) (fun h0 k hk hkn hp => by omega)
  rw [g_append_lt (by omega), g_append_lt (by omega)]
  exact h j h0 (by omega) trivial
theorem setw_heap {L : List E} (h : Hp L L.length) {i : Nat} (hi : i < L.length) (x : E) : Hp (fix L.length (L.set i x) i) L.length :=
  fix_heap L.length (L.set i x) i hi (by simp) (ah_set h x (Nat.le_refl _))

end Go.Proofs.Ytekkblhghbkdiaa
