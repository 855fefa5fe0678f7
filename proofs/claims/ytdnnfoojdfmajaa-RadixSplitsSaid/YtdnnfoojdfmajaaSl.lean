/- Slices whose cells are read: what a value and a world say of them. Plain theorems. -/
import Derived.WalkKit
import Derived.Lib.Hide
import Derived.Laws.OwnMore
import Derived.Deep.Draws
namespace Go.Proofs.Ytdnnfoojdfmajaa
open Go.RowKit
/-- v is a slice of n elements of sz cells each; its cells read as xs. -/
def RV (w : World) (sz : Nat) (v : Value) (n : Nat) (xs : List Value) : Prop :=
  xs.length = n * sz ∧ ∃ ao cap, v = .slice ao n cap ∧ n ≤ cap ∧ cap ≤ maxLen ∧ ∀ j u, xs[j]? = some u → ∃ b o, ao = some ⟨b, o, none⟩ ∧ w.cell? ⟨b, o + j, none⟩ = some u
theorem RV.nil (w : World) (sz : Nat) : RV w sz (.slice none 0 0) 0 [] := ⟨by simp, none, 0, rfl, Nat.le_refl _, by unfold maxLen; omega, fun j u h => by simp at h⟩
theorem RV.keep {w w' : World} {sz : Nat} {v : Value} {n : Nat} {xs : List Value} (h : RV w sz v n xs) (hc : ∀ a u, w.cell? a = some u → w'.cell? a = some u) : RV w' sz v n xs := by
  obtain ⟨h1, ao, cap, rfl, h2, h3, h4⟩ := h
  refine ⟨h1, ao, cap, rfl, h2, h3, fun j u hj => ?_⟩
  obtain ⟨b, o, e, hcell⟩ := h4 j u hj
  exact ⟨b, o, e, hc _ _ hcell⟩
theorem cell_keep {w w' : World} (h : Below w.heap.size w w') {a : Addr} {u : Value} (hc : w.cell? a = some u) : w'.cell? a = some u := (h.cell (World.block_lt_of_cell? w a hc)).trans hc
theorem RV.below {w w' : World} {sz : Nat} {v : Value} {n : Nat} {xs : List Value} (h : RV w sz v n xs) (hb : Below w.heap.size w w') : RV w' sz v n xs := h.keep fun _ _ hc => cell_keep hb hc
theorem RV.alloc {w : World} {sz : Nat} {v : Value} {n : Nat} {xs : List Value} (h : RV w sz v n xs) (o : Obj) : RV (w.alloc o) sz v n xs := h.below ((Below.refl _ _).alloc (Nat.le_refl _) o)
theorem RV.drew {w : World} {sz : Nat} {v : Value} {n : Nat} {xs : List Value} (h : RV w sz v n xs) : RV w.drew sz v n xs := h
theorem RV.drewN {w : World} {sz : Nat} {v : Value} {n : Nat} {xs : List Value} (h : RV w sz v n xs) (k : Nat) : RV (w.drewN k) sz v n xs := h
theorem RV.of_own {w : World} {base : Nat} {e : TypeId} {sz : Nat} {v : Value} {n : Nat} {xs : List Value} (h : w.ownsRow base e sz v n xs) : RV w sz v n xs := by
  have h' := h
  obtain ⟨h1, h2⟩ := h
  rcases h2 with ⟨rfl, rfl⟩ | ⟨g, cap, cur, rfl, hg, hh, hnc, hcm, hcs, ht⟩
  · have : xs = [] := by simpa using h1
    subst this
    exact RV.nil w sz
  · refine ⟨h1, _, cap, rfl, hnc, hcm, fun j u hj => ⟨g, 0, rfl, ?_⟩⟩
    have hlt : j < n * sz := by rw [← h1]; exact (List.getElem?_eq_some_iff.1 hj).1
    rw [Nat.zero_add]
    exact (h'.cellAt j hlt).trans hj
/-- Either it is empty, or its cells stand in one block. -/
theorem RV.cases {w : World} {sz : Nat} {v : Value} {n : Nat} {xs : List Value} (h : RV w sz v n xs) (hs : 0 < sz) :
    (n = 0 ∧ xs = [] ∧ ∃ ao cap, v = .slice ao 0 cap) ∨ (0 < n ∧ ∃ b o cap, v = .slice (some ⟨b, o, none⟩) n cap ∧ n ≤ cap ∧ cap ≤ maxLen ∧ ∀ j u, xs[j]? = some u → w.cell? ⟨b, o + j, none⟩ = some u) := by
  obtain ⟨h1, ao, cap, rfl, h2, h3, h4⟩ := h
  by_cases hn : n = 0
  · subst hn
    exact .inl ⟨rfl, by simpa using h1, ao, cap, rfl⟩
  · right
    have hlen : 0 < xs.length := by rw [h1]; exact Nat.mul_pos (by omega) hs
    obtain ⟨b, o, rfl, _⟩ := h4 0 xs[0] (List.getElem?_eq_getElem hlen)
    refine ⟨by omega, b, o, cap, rfl, h2, h3, fun j u hj => ?_⟩
    obtain ⟨b', o', e, hc⟩ := h4 j u hj
    simp only [Option.some.injEq, Addr.mk.injEq, and_true] at e
    obtain ⟨rfl, rfl⟩ := e
    exact hc
theorem RV.slice {w : World} {sz : Nat} {v : Value} {n : Nat} {xs : List Value} (h : RV w sz v n xs) : ∃ ao cap, v = .slice ao n cap ∧ n ≤ cap ∧ cap ≤ maxLen := by
  obtain ⟨h1, ao, cap, rfl, h2, h3, h4⟩ := h
  exact ⟨ao, cap, rfl, h2, h3⟩
/-- Numbers of one kind in a row. -/
def nm (zs : List Int) : List Value := zs.map (Value.int .i64)
theorem nm_get (zs : List Int) (j : Nat) (h : j < zs.length) : (nm zs)[j]? = some (.int .i64 (zs.getD j 0)) := by
  simp [nm, h]
theorem nm_length (zs : List Int) : (nm zs).length = zs.length := by simp [nm]
def RI (w : World) (v : Value) (zs : List Int) : Prop := RV w 1 v zs.length (nm zs)
end Go.Proofs.Ytdnnfoojdfmajaa
