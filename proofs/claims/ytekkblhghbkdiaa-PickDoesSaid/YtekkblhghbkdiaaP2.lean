/- Plain theorems for layer 6 (pick). -/
import Derived.Test.YtekkblhghbkdiaaProg
import Derived.Test.YtekkblhghbkdiaaP1
import Derived.WalkKit
import Derived.KernelRfl
import Derived.WideKeyEntry
import Derived.Maps.OwnSet
namespace Go.Proofs.Ytekkblhghbkdiaa
set_option linter.unusedVariables false
set_option linter.unusedSimpArgs false
open Go.ChangeMaps Go.MapKept Go.WideShapes
open Go.WideElems (Fit findIdx_arr findIdx_born set_self)
open Go.Maps (Keyed)
theorem setBlock_self {w : World} {b : Nat} {es : Array MapEntry} {clock : Nat} (hb : w.heap[b]? = some (.map es clock)) : setBlock w b (.map es clock) = w := by
  have e : w.heap.setIfInBounds b (.map es clock) = w.heap := by
    apply Array.ext_getElem?
    intro i
    by_cases hi : i = b
    · subst hi
      exact (heap_setBlock_same hb _).trans hb.symm
    · exact heap_setBlock_other hb _ hi
  unfold setBlock
  rw [e]
/-- A key that is there: its entry is found, nothing turns; a store through its stamp is a store into the map. -/
theorem entry_old {H : Type} {P : Program} {w : World} {t k e : TypeId} {R : Value → Option (DataW H × List MemPlace)} {b : Nat} {es : Array MapEntry} {clock : Nat}
    (K : Keyed P k) (ht : P.underlying t = some (.map k e)) (hb : w.heap[b]? = some (.map es clock)) (F : Fit P k R es clock)
    {key : Value} {kl : Lit} (hkey : keyOf P k key = some kl) (hin : ∃ x ∈ es.toList, x.key = key) :
    ∃ (v0 : Value) (st : Nat), (Instr.mapEntry t (.map (some b)) key).run P w = .ok (.tuple #[v0, goInt st]) w ∧
      ∀ (val : Value), ∃ w', (Instr.entryStore t (.map (some b)) (goInt st) val).run P w = .ok () w' ∧ (Instr.mapUpdate t (.map (some b)) key val).run P w = .ok () w' := by
  obtain ⟨s1, s2, _⟩ := F.stamped
  rcases K.find w hkey es.toList F.keys with ⟨h1, h2⟩ | ⟨j, e0, h1, h2, h3⟩
  · obtain ⟨x, hx, hk⟩ := hin
    exact absurd hk (h2 x hx)
  · have hj : es[j]? = some e0 := by simpa using h2
    have hsame : es.modify j (fun e => { e with key := key }) = es := by
      apply Array.ext'
      rw [Array.toList_modify, modify_eq_set _ _ _ _ h2]
      have : ({ e0 with key := key } : MapEntry) = e0 := by rw [← h3]
      rw [this]
      exact set_self _ _ _ h2
    have hw : setBlock w b (.map es clock) = w := setBlock_self hb
    refine ⟨e0.val, e0.born, ?_, fun val => ⟨setBlock w b (.map (es.modify j (fun e' => { e' with key := key, val := val })) clock), ?_, ?_⟩⟩
    · have : (Instr.mapEntry t (.map (some b)) key).run P w = .ok (.tuple #[e0.val, goInt e0.born]) (setBlock w b (.map es clock)) := by
        simp [Instr.mapEntry, run_underlying ht, MapKept.run_getObj_map hb, K.check w false hkey, h1, hj, h3, K.stays w hkey, hsame, MapKept.run_setObj_map _ hb, Result.andThen, setBlock]
      rw [this, hw]
    · have hidx : es.findIdx? (fun e => ((e.born : Nat) : Int) == ((e0.born : Nat) : Int)) = some j := by
        rw [findIdx_arr]
        exact findIdx_born s2 h2
      have hmod : es.modify j (fun e => { e with val := val }) = es.modify j (fun e' => { e' with key := key, val := val }) := by
        apply Array.ext'
        rw [Array.toList_modify, Array.toList_modify, modify_eq_set _ _ _ _ h2, modify_eq_set _ _ _ _ h2, ← h3]
      simp [Instr.entryStore, MapKept.run_getObj_map hb, asInt, asIntOf, goInt, hidx, hmod, MapKept.run_setObj_map _ hb, Result.andThen, setBlock]
    · simp [Instr.mapUpdate, run_underlying ht, MapKept.run_getObj_map hb, K.check w false hkey, h1, hj, h3, K.stays w hkey, MapKept.run_setObj_map _ hb, Result.andThen, setBlock]
theorem law3 : Keyed Try.prog 3 := Maps.int_keyed Try.underlying3
theorem zero3 (w : World) : (zeroValue 3).run Try.prog w = .ok (.int .i64 0) w := by kernel_rfl
abbrev ky (f : Int) : Lit := .int .i64 f
def wf (f : Int) : Prop := (Lit.int .i64 f).wf = true
theorem key_of {f : Int} (h : wf f) : keyOf Try.prog 3 (.int .i64 f) = some (ky f) := Maps.keyOf_int_mk Try.underlying3 h
/-- Block b is a map of n entries that reads as φ. -/
def MX (w : World) (b n : Nat) (φ : Int → Option Int) : Prop :=
  ∃ D : DataW Unit, w.ownsMap Try.prog 3 (plainElem Try.prog 3) b n D ∧ Maps.size D = n ∧ ∀ f, wf f → Maps.has D (ky f) = (φ f).isSome ∧ ∀ i, φ f = some i → D.atKey (ky f) (.lit (.int .i64 0)) = .lit (.int .i64 i)
def upd (φ : Int → Option Int) (f : Int) (v : Option Int) (x : Int) : Option Int := if x = f then v else φ x
theorem ownsMap_tight {w : World} {b n : Nat} {D : DataW Unit} (h : w.ownsMap Try.prog 3 (plainElem Try.prog 3) b n D) : w.ownsMap Try.prog 3 (plainElem Try.prog 3) b (Maps.size D) D := by
  obtain ⟨es, clock, hb, F, hs, rfl⟩ := h
  exact ⟨es, clock, hb, F, by simp [Maps.size, length_sorted], rfl⟩
theorem MX.lt {w : World} {b n : Nat} {φ : Int → Option Int} (h : MX w b n φ) : b < w.heap.size := by obtain ⟨D, h, _⟩ := h; exact h.lt
theorem MX.isMap {w : World} {b n : Nat} {φ : Int → Option Int} (h : MX w b n φ) : ∃ es clock, w.heap[b]? = some (.map es clock) := by
  obtain ⟨D, ⟨es, clock, hb, _⟩, _⟩ := h; exact ⟨es, clock, hb⟩
theorem MX.of_block {w w' : World} {b n : Nat} {φ : Int → Option Int} (h : MX w b n φ) (hb : w'.heap[b]? = w.heap[b]?) : MX w' b n φ := by
  obtain ⟨D, ⟨es, clock, hb', r⟩, r2⟩ := h
  exact ⟨D, ⟨es, clock, hb.trans hb', r⟩, r2⟩
theorem MX.congr {w : World} {b n : Nat} {φ ψ : Int → Option Int} (h : MX w b n φ) (he : ∀ f, wf f → ψ f = φ f) : MX w b n ψ := by
  obtain ⟨D, h1, h2, h3⟩ := h
  exact ⟨D, h1, h2, fun f hf => by rw [he f hf]; exact h3 f hf⟩
theorem MX.made (w : World) : MX (w.alloc (.map #[] 0)) w.heap.size 0 (fun _ => none) :=
  ⟨.map [], World.ownsMap_made _ _ _ _, rfl, fun f _ => ⟨rfl, fun i h => by cases h⟩⟩
theorem MX.look {w : World} {b n : Nat} {φ : Int → Option Int} (h : MX w b n φ) {f : Int} (hf : wf f) :
    (Instr.lookup 50 (.map (some b)) (.int .i64 f) true).run Try.prog w = .ok (.tuple #[.int .i64 ((φ f).getD 0), .bool (φ f).isSome]) w := by
  obtain ⟨D, h1, _, h3⟩ := h
  obtain ⟨v, ps, hrun, hv⟩ := h1.look_ok law3 Try.underlying50 (zero3 w) (plainElem_int Try.underlying3 (by decide)) (key_of hf)
  obtain ⟨c, rfl, hc, _⟩ := plainElem_int_inv Try.underlying3 hv
  obtain ⟨hh, ha⟩ := h3 f hf
  rw [hrun, hh]
  cases hφ : φ f with
  | none =>
    rw [hφ] at hh
    have := Maps.atKey_of_not_has (D := D) (k := ky f) (by simpa using hh) (.lit (.int .i64 0))
    rw [this] at hc
    simp at hc
    simp [← hc.1]
  | some i =>
    have := ha i hφ
    rw [this] at hc
    simp at hc
    simp [← hc.1]
theorem isKeyLit_ky (f : Int) : WideAt.IsKeyLit (ky f) := by unfold ky WideAt.IsKeyLit; trivial
theorem MX.store {w : World} {b n : Nat} {φ : Int → Option Int} (h : MX w b n φ) {f v : Int} (hf : wf f) (hv : wf v) (hn : n < maxLen) :
    ∃ w', (Instr.mapUpdate 50 (.map (some b)) (.int .i64 f) (.int .i64 v)).run Try.prog w = .ok () w' ∧ MX w' b (if (φ f).isSome then n else n + 1) (upd φ f (some v)) ∧ w.mapTurned w' b := by
  obtain ⟨D, h1, h2, h3⟩ := h
  obtain ⟨w', hrun, ho, ht⟩ := h1.store law3 Try.underlying50 hn (key_of hf) (plainElem_int (H := Unit) Try.underlying3 hv)
  have e : Maps.size (D.put (ky f) (.lit (.int .i64 v))) = if (φ f).isSome then n else n + 1 := by
    rw [Maps.size_put (h1.tidy law3), (h3 f hf).1, h2]
  refine ⟨w', hrun, ⟨_, ?_, e, fun x hx => ?_⟩, ht⟩
  · rw [← e]
    exact ownsMap_tight ho
  · unfold upd
    by_cases hxf : x = f
    · subst hxf
      rw [if_pos rfl]
      refine ⟨Maps.has_put_same h1.isMap (isKeyLit_ky x) _, fun i hi => ?_⟩
      rw [Maps.atKey_put_same h1.isMap (isKeyLit_ky x)]
      simp at hi
      rw [hi]
    · rw [if_neg hxf]
      have hne : ky x ≠ ky f := fun e => hxf (by simpa [ky] using e)
      rw [Maps.has_put_other hne, Maps.atKey_put_other hne]
      exact h3 x hx
theorem MX.entry {w : World} {b n : Nat} {φ : Int → Option Int} (h : MX w b n φ) {f : Int} (hf : wf f) (hs : (φ f).isSome = true) (hn : n < maxLen) :
    ∃ v0 st, (Instr.mapEntry 50 (.map (some b)) (.int .i64 f)).run Try.prog w = .ok (.tuple #[v0, .int .i64 st]) w ∧
      ∀ v, wf v → ∃ w', (Instr.entryStore 50 (.map (some b)) (.int .i64 st) (.int .i64 v)).run Try.prog w = .ok () w' ∧ MX w' b n (upd φ f (some v)) ∧ w.mapTurned w' b := by
  have h' := h
  obtain ⟨D, h1, h2, h3⟩ := h
  have hh := (h3 f hf).1
  obtain ⟨es, clock, hb, F, hsz, rfl⟩ := h1
  have hin : ∃ x ∈ es.toList, x.key = .int .i64 f := by
    rcases Maps.fit_look true law3 Try.underlying50 (zero3 w) hb F (key_of hf) with ⟨_, _, hat⟩ | ⟨e0, y, hm, hk, _⟩
    · rw [Maps.has_false_of_atKey hat, hs] at hh
      cases hh
    · exact ⟨e0, hm, hk⟩
  obtain ⟨v0, st, hrun, hst⟩ := entry_old law3 Try.underlying50 hb F (key_of hf) hin
  refine ⟨v0, (st : Int), hrun, fun v hv => ?_⟩
  obtain ⟨w', r1, r2⟩ := hst (.int .i64 v)
  obtain ⟨w2, s1, s2, s3⟩ := h'.store hf hv hn
  rw [hs, if_pos rfl] at s2
  have : w2 = w' := by rw [s1] at r2; simpa using r2
  subst this
  exact ⟨w2, r1, s2, s3⟩
theorem MX.drop {w : World} {b n : Nat} {φ : Int → Option Int} (h : MX w b n φ) {f : Int} (hf : wf f) (ty : TypeId) :
    ∃ w', (Builtin.delete_ #[50, 3] ty #[.map (some b), .int .i64 f]).run Try.prog w = .ok (.tuple #[]) w' ∧ MX w' b (if (φ f).isSome then n - 1 else n) (upd φ f none) ∧ w.mapTurned w' b := by
  obtain ⟨D, h1, h2, h3⟩ := h
  obtain ⟨w', hrun, ho, ht⟩ := h1.drop law3 Try.underlying50 (key_of hf) ty
  have e := Maps.size_del (k := ky f) (h1.tidy law3)
  rw [(h3 f hf).1, h2] at e
  have e : Maps.size (D.del (ky f)) = if (φ f).isSome then n - 1 else n := by split at e <;> simp_all <;> omega
  refine ⟨w', hrun, ⟨_, ?_, e, fun x hx => ?_⟩, ht⟩
  · rw [← e]
    exact ownsMap_tight ho
  · unfold upd
    by_cases hxf : x = f
    · subst hxf
      rw [if_pos rfl]
      exact ⟨Maps.has_del_same, fun i hi => by cases hi⟩
    · rw [if_neg hxf]
      have hne : ky x ≠ ky f := fun e => hxf (by simpa [ky] using e)
      rw [Maps.has_del_other hne, Maps.atKey_del_other hne]
      exact h3 x hx

end Go.Proofs.Ytekkblhghbkdiaa
