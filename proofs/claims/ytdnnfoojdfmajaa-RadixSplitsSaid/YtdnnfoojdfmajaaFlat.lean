/- Arguments of flat types: what a row's reading tells of their cells. Plain theorems. -/
import Derived.ProofKit
import Derived.OpenShut
import Derived.Deep.Slices
namespace Go.Proofs.Ytdnnfoojdfmajaa.Flat
open Go.ChangeShapes Go.WideShapes Go.ChangeAt Go.RowKit
inductive LK where
  | i (k : IntKind)
  | b
def LK.ok : LK → Value → Prop
  | .i k, v => ∃ n : Int, v = .int k n ∧ (Lit.int k n).wf = true
  | .b, v => ∃ x : Bool, v = .bool x
def All2 : List LK → List Value → Prop
  | [], [] => True
  | k :: ks, v :: vs => k.ok v ∧ All2 ks vs
  | _, _ => False
theorem All2.append : ∀ {a b : List LK} {x y : List Value}, All2 a x → All2 b y → All2 (a ++ b) (x ++ y)
  | [], _, [], _, _, h => h
  | _ :: _, _, _ :: _, _, h, k => ⟨h.1, All2.append h.2 k⟩
  | [], _, _ :: _, _, h, _ => h.elim
  | _ :: _, _, [], _, h, _ => h.elim
theorem All2.length : ∀ {a : List LK} {x : List Value}, All2 a x → x.length = a.length
  | [], [], _ => rfl
  | _ :: _, _ :: _, h => by simp [All2.length h.2]
  | [], _ :: _, h => h.elim
  | _ :: _, [], h => h.elim
/-- A type whose values are flat: so many cells, of these kinds. -/
def Leafs (P : Program) (t : TypeId) (ks : List LK) : Prop :=
  P.cellsOf t = ks.length ∧ ∀ {H : Type} (enc : TypeId × Value → H) (w : World) (base : Nat) (spare : Nat → Bool) (held : Bool) (fuel : Nat) (cs : List Value) (x : DataW H × List MemPlace),
    DataW.trod enc P w base spare held fuel t cs = some x → All2 ks cs
theorem leafs_int {P : Program} {t : TypeId} {k : IntKind} (h : P.underlying t = some (.int k)) (hc : P.cellsOf t = 1) : Leafs P t [.i k] := by
  refine ⟨hc, fun enc w base spare held fuel cs x hx => ?_⟩
  obtain ⟨n, rfl, _, hw⟩ := DataW.trod_int h hx
  exact ⟨⟨n, rfl, hw⟩, trivial⟩
theorem leafs_bool {P : Program} {t : TypeId} (h : P.underlying t = some .bool) (hc : P.cellsOf t = 1) : Leafs P t [.b] := by
  refine ⟨hc, fun enc w base spare held fuel cs x hx => ?_⟩
  cases fuel with
  | zero => simp [DataW.trod] at hx
  | succ n =>
    unfold DataW.trod at hx
    rw [h] at hx
    split at hx <;> simp_all
    exact ⟨⟨_, rfl⟩, trivial⟩
def Fits (P : Program) : Nat → List Field → List (List LK) → Prop
  | _, [], [] => True
  | o, f :: fs, k :: ks => f.offset = o ∧ Leafs P f.type k ∧ Fits P (o + k.length) fs ks
  | _, _, _ => False
theorem fits_all {P : Program} {H : Type} {enc : TypeId × Value → H} {w : World} {base : Nat} {spare : Nat → Bool} {held : Bool} {n : Nat} {cs : List Value} :
    ∀ (fs : List Field) (kss : List (List LK)) (o : Nat), Fits P o fs kss →
      (∀ (i : Nat) f, fs[i]? = some f → ∃ x, DataW.trod enc P w base spare held n f.type ((cs.drop f.offset).take (P.cellsOf f.type)) = some x) →
      cs.length = o + kss.flatten.length → All2 kss.flatten (cs.drop o)
  | [], [], o, _, _, hl => by
    have h : cs.drop o = [] := List.drop_of_length_le (by simpa using Nat.le_of_eq hl)
    rw [h]
    trivial
  | f :: fs, k :: ks, o, hf, hx, hl => by
    obtain ⟨ho, hk, hr⟩ := hf
    obtain ⟨x, hx0⟩ := hx 0 f rfl
    have h1 := hk.2 enc w base spare held n _ x hx0
    rw [ho, hk.1] at h1
    have h2 := fits_all fs ks (o + k.length) hr (fun i g hg => hx (i + 1) g hg) (by simp only [List.flatten_cons, List.length_append] at hl; omega)
    have h3 : cs.drop o = (cs.drop o).take k.length ++ cs.drop (o + k.length) := by
      rw [← List.drop_drop]
      exact (List.take_append_drop _ _).symm
    rw [h3]
    exact h1.append h2
  | [], _ :: _, _, hf, _, _ => hf.elim
  | _ :: _, [], _, hf, _, _ => hf.elim
theorem leafs_struct {P : Program} {t : TypeId} {fs : Array Field} (kss : List (List LK)) (h : P.underlying t = some (.struct fs)) (hc : P.cellsOf t = kss.flatten.length) (hf : Fits P 0 fs.toList kss) : Leafs P t kss.flatten := by
  refine ⟨hc, fun enc w base spare held fuel cs x hx => ?_⟩
  obtain ⟨xs, n, _, _, hl, hn, ht⟩ := DataW.trod_struct h hx
  have h := fits_all (P := P) (enc := enc) (w := w) (base := base) (spare := spare) (held := held) (n := n) (cs := cs) fs.toList kss 0 hf (fun i f hi => by
    have hi' : fs[i]? = some f := by simpa using hi
    have hlt : i < xs.length := by rw [hn]; exact (Array.getElem?_eq_some_iff.1 hi').1
    exact ⟨xs[i], by rw [ht i f hi']; exact List.getElem?_eq_getElem hlt⟩) (by rw [hl, hc]; simp)
  simpa using h
theorem leafs_array {P : Program} {t e : TypeId} {n : Nat} {ks : List LK} (h : P.underlying t = some (.array n e)) (he : Leafs P e ks) (hc : P.cellsOf t = (List.replicate n ks).flatten.length) : Leafs P t (List.replicate n ks).flatten := by
  refine ⟨hc, fun enc w base spare held fuel cs x hx => ?_⟩
  obtain ⟨xs, m, _, _, hl, hn, ht⟩ := DataW.trod_array h hx
  have step : ∀ (j i : Nat), i + j = n → All2 (List.replicate j ks).flatten (cs.drop (i * ks.length)) := by
    intro j
    induction j with
    | zero =>
      intro i hi
      have h0 : cs.drop (i * ks.length) = [] := List.drop_of_length_le (by rw [hl, hc]; simp; subst hi; simp)
      rw [h0]
      trivial
    | succ j ih =>
      intro i hi
      have h1 := he.2 enc w base spare held m ((cs.drop (i * P.cellsOf e)).take (P.cellsOf e)) (xs[i]'(by omega)) (by rw [ht i (by omega)]; exact List.getElem?_eq_getElem (by omega))
      rw [he.1] at h1
      have h2 := ih (i + 1) (by omega)
      have h3 : cs.drop (i * ks.length) = (cs.drop (i * ks.length)).take ks.length ++ cs.drop ((i + 1) * ks.length) := by
        rw [Nat.add_mul, Nat.one_mul, ← List.drop_drop]
        exact (List.take_append_drop _ _).symm
      rw [h3, List.replicate_succ, List.flatten_cons]
      exact h1.append h2
  have h := step n 0 (by omega)
  simpa using h
/-- A value of a flat type of several cells, as an argument. -/
theorem open_flat {P : Program} {w W : World} {r : Reach} {base b0 : Nat} {spare : Nat → Bool} {held : Bool} {H : Type} {enc : TypeId × Value → H} {t : TypeId} {ks : List LK} {v : Value} {d : DataW H} {p : List MemPlace} {u : TypeDesc}
    (hl : Leafs P t ks) (hu : P.underlying t = some u) (hsa : (∃ fs, u = .struct fs) ∨ ∃ n e, u = .array n e) (hv : Value.okWide P W r b0 t v) (h : DataW.Trod enc P w base spare held t v d p) : ∃ cs : Array Value, v = .agg cs ∧ All2 ks cs.toList := by
  obtain ⟨fuel, hf⟩ := h
  have hcs : ∃ cs, v = .agg cs := by
    unfold Value.okWide at hv
    rw [hu] at hv
    rcases hsa with ⟨fs, rfl⟩ | ⟨n, e, rfl⟩
    · obtain ⟨cs, h, _⟩ := hv; exact ⟨cs, h⟩
    · obtain ⟨cs, h, _⟩ := hv; exact ⟨cs, h⟩
  obtain ⟨cs, rfl⟩ := hcs
  exact ⟨cs, rfl, hl.2 enc w base spare held fuel cs.toList _ hf⟩
theorem add_add (a : Addr) (m j : Nat) : (a.add m).add j = a.add (m + j) := by
  unfold Addr.add
  by_cases hm : m = 0
  · subst hm; simp
  · by_cases hj : j = 0
    · subst hj; simp [hm]
    · simp [hm, hj, Nat.add_assoc]
theorem mapM_get {α β : Type} {f : α → Option β} : ∀ {l : List α} {r : List β}, l.mapM f = some r → r.length = l.length ∧ ∀ (i : Nat) (a : α) (b : β), l[i]? = some a → r[i]? = some b → f a = some b
  | [], r, h => by
    simp at h
    subst h
    exact ⟨rfl, fun i a b h => by simp at h⟩
  | x :: l, r, h => by
    simp only [List.mapM_cons, Option.bind_eq_bind, Option.bind_eq_some_iff, Option.pure_def, Option.some.injEq] at h
    obtain ⟨y, hy, ys, hys, rfl⟩ := h
    obtain ⟨h1, h2⟩ := mapM_get hys
    refine ⟨by simp [h1], fun i a b ha hb => ?_⟩
    cases i with
    | zero => simp at ha hb; subst ha; subst hb; exact hy
    | succ i => exact h2 i a b (by simpa using ha) (by simpa using hb)
/-- Rows of a slice of flat elements, as far as its length. -/
def Rows (w : World) (ks : List LK) (ao : Option Addr) (len : Nat) (rows : Nat → List Value) : Prop :=
  ∀ i, i < len → All2 ks (rows i) ∧ ∃ b o, ao = some ⟨b, o, none⟩ ∧ ∀ j v, (rows i)[j]? = some v → w.cell? ⟨b, o + (i * ks.length + j), none⟩ = some v
theorem open_rows {P : Program} {w W : World} {r : Reach} {base b0 : Nat} {spare : Nat → Bool} {held : Bool} {H : Type} {enc : TypeId × Value → H} {t e : TypeId} {ks : List LK} {v : Value} {d : DataW H} {p : List MemPlace}
    (hl : Leafs P e ks) (hk : 0 < ks.length) (hu : P.underlying t = some (.slice e)) (hv : Value.okWide P W r b0 t v) (h : DataW.Trod enc P w base spare held t v d p) :
    ∃ ao len cap rows, v = .slice ao len cap ∧ len ≤ cap ∧ cap ≤ maxLen ∧ Rows w ks ao len rows := by
  obtain ⟨ao, len, cap, rfl⟩ := okWide_slice hu hv
  obtain ⟨fuel, hf⟩ := h
  rcases Go.Deep.open_slice hu hf with ⟨hcs, _⟩ | ⟨a, len', cap', m, n, D, Pl, hcs, _, hlc, hm, hmm, _, hx⟩
  · simp [Value.cells] at hcs
    obtain ⟨rfl, rfl, rfl⟩ := hcs
    exact ⟨none, 0, 0, fun _ => [], rfl, Nat.le_refl _, Nat.zero_le _, fun i hi => absurd hi (by omega)⟩
  · simp [Value.cells] at hcs
    obtain ⟨rfl, rfl, rfl⟩ := hcs
    have hlen : len ≤ m := by rw [hmm]; split <;> omega
    refine ⟨some a, len, cap, fun i => ((w.cells? base (a.add (i * P.cellsOf e)) (P.cellsOf e)).getD []), rfl, hlc, hm, fun i hi => ?_⟩
    obtain ⟨cs', hc1, hc2⟩ := hx i (by omega)
    have hall := hl.2 enc w base spare held n cs' _ hc2
    have hlen' := hall.length
    dsimp only
    rw [hc1]
    simp only [Option.getD_some]
    refine ⟨hall, ?_⟩
    have hcell : ∀ j v, cs'[j]? = some v → w.cell? (a.add (i * ks.length + j)) = some v := by
      intro j v hv
      have hj : j < ks.length := by rw [← hlen']; exact (List.getElem?_eq_some_iff.1 hv).1
      unfold World.cells? at hc1
      split at hc1
      · have h3 := (mapM_get hc1).2 j j v (by rw [List.getElem?_range (by rw [hl.1]; exact hj)]) hv
        rw [← add_add, ← hl.1]
        exact h3
      · cases hc1
    have hsp : a.spot = none := by
      obtain ⟨cs0, h01, h02⟩ := hx 0 (by omega)
      have ha0 := (hl.2 enc w base spare held n cs0 _ h02).length
      unfold World.cells? at h01
      split at h01
      · obtain ⟨v0, hv0⟩ : ∃ v0, cs0[0]? = some v0 := ⟨cs0[0]'(by omega), List.getElem?_eq_getElem (by omega)⟩
        have h3 := (mapM_get h01).2 0 0 v0 (by rw [List.getElem?_range (by rw [hl.1]; exact hk)]) hv0
        simp [Addr.add, World.cell?] at h3
        cases hs : a.spot with
        | none => rfl
        | some s => simp [hs] at h3; split at h3 <;> simp at h3
      · cases h01
    refine ⟨a.block, a.off, by cases a; simp at hsp; subst hsp; rfl, fun j v hv => ?_⟩
    have h4 := hcell j v hv
    have h5 : a.add (i * ks.length + j) = ⟨a.block, a.off + (i * ks.length + j), none⟩ := by
      unfold Addr.add
      split
      · rename_i h0
        cases a
        simp at hsp
        subst hsp
        simp [h0]
      · rfl
    rw [← h5]
    exact h4
/-- The number, the bool in a cell. -/
def iv : Value → Int | .int _ n => n | _ => 0
def bv : Value → Bool | .bool b => b | _ => false
end Go.Proofs.Ytdnnfoojdfmajaa.Flat
