/- Parts of the proofs of layer 18 (gap): contracts of its functions, and the laws' walks. -/
import Derived.Test.YtkaglggljomgdaaProg
import Derived.WalkKit
import Derived.WalkSpells
import Derived.WalkLawsBesides
import Derived.BigQuiet
import Derived.Deep.QuietTactic
import Derived.Lib.Hide
import Derived.Deep.RegionHeld3
import Derived.Deep.DeepCutAuto
import Derived.KernelRfl
import Derived.Deep.OwnRows
import Derived.Laws.CopyOwn
import Derived.Laws.CopyRow
import Derived.StillTailTactics
import Derived.Deep.RegionLaw
import Derived.Test.YtkaglggljomgdaaH18
import Derived.OwnWalk
namespace Go.Proofs.Ytkaglggljomgdaa
open Go.RowKit
set_option linter.unusedVariables false
set_option linter.unusedSimpArgs false

/-- A stretch has a page. -/
def Has (p : Int) (e : Int × Int) : Prop := e.1 ≤ p ∧ p < e.2
instance (p : Int) (e : Int × Int) : Decidable (Has p e) := by unfold Has; exact inferInstance
/-- What At tells. -/
def AtV (p : Int) (L : List (Int × Int)) (v : Int) : Prop := (v = -1 ∧ ∀ e ∈ L, ¬ Has p e) ∨ ∃ (i : Nat) (e : Int × Int), v = (i : Nat) ∧ L[i]? = some e ∧ Has p e
set_option maxHeartbeats 2000000 in
theorem RAt_any (p : Int) (g : Nat) (F : List Nat) (L : List (Int × Int)) (w : World) (h : Rt w g F L) (hm : L.length ≤ 5000) :
    Calls Try.prog 20 #[.pointer (some ⟨g, 0, none⟩), .int .i64 p] w fun e w' => ∃ v, e = .returned (.int .i64 v) ∧ AtV p L v ∧ w = w' := by
  obtain ⟨al, cl, c0, hT⟩ := h.cells
  have HT := Lib.hid hT
  clear h hT
  go_enter Try.func20, Try.ntmps20
  go_wp2_with fail
  go_loopw [5] (fun s wr => ∃ (i : Nat), i ≤ L.length ∧ s = .int .i64 (i : Nat) ∧ wr = w ∧ RowKit.Hid (∀ e ∈ L.take i, ¬ Has p e)) (fun s _ => L.length - (intOf s).toNat)
  case atStart => exact ⟨0, Nat.zero_le _, rfl, rfl, Lib.hid fun e he => by simp at he⟩
  case round =>
    obtain ⟨i, hi, rfl, rfl, HL⟩ := hrel
    by_cases hil : i < L.length
    · obtain ⟨bl, cl2, hv, hbl, hcell⟩ := HT.out.read (ne_nil_of_lt hil)
      cases hv
      have hk := List.getElem?_eq_getElem hil
      generalize L[i] = k at hk
      obtain ⟨k1, k2⟩ := k
      obtain ⟨e0, e1⟩ := hcell i _ hk
      have hiI : ((i : Nat) : Int) < ((L.length : Nat) : Int) := by omega
      have HTK := Lib.hid (And.intro (take_succ' L i _ hk) hk)
      dsimp only at e0 e1
      clear hcell hk hbl
      by_cases m1 : k1 ≤ p
      · by_cases m2 : p < k2
        · go_wp2_with fail
          go_ret
          exact ⟨(i : Nat), rfl, .inr ⟨i, _, rfl, HTK.out.2, m1, m2⟩, rfl⟩
        · go_wp2_with fail
          refine ⟨⟨i + 1, hil, by simp, (by first | rfl | trivial), Lib.hid fun e he => ?_⟩, by simp [intOf]; omega⟩
          rw [HTK.out.1] at he
          rcases List.mem_append.1 he with he | he
          · exact HL.out e he
          · simp at he; subst he; exact fun h => absurd h.2 (by simp only; omega)
      · go_wp2_with fail
        refine ⟨⟨i + 1, hil, by simp, (by first | rfl | trivial), Lib.hid fun e he => ?_⟩, by simp [intOf]; omega⟩
        rw [HTK.out.1] at he
        rcases List.mem_append.1 he with he | he
        · exact HL.out e he
        · simp at he; subst he; exact fun h => absurd h.1 (by simp only; omega)
    · have hil2 : i = L.length := by omega
      have hno := HL.out
      rw [hil2, List.take_length] at hno
      have HN := Lib.hid hno
      clear hno
      go_wp2_with fail
      go_ret
      exact ⟨-1, rfl, .inl ⟨rfl, HN.out⟩, rfl⟩
theorem list_ne_of_len {α : Type} {a b : List α} (h : a.length ≠ b.length) : a ≠ b := fun e => h (by rw [e])
theorem take_next {a b : List (Int × Int)} {i : Nat} {k : Int × Int} (ha : a[i]? = some k) (hb : b[i]? = some k) (h : a.take i = b.take i) : a.take (i + 1) = b.take (i + 1) := by rw [take_succ' a i k ha, take_succ' b i k hb, h]
set_option maxRecDepth 100000 in
set_option maxHeartbeats 4000000 in
theorem Same_any (va vb : Value) (a b : List (Int × Int)) (w : World) (ha : Told w va a) (hb : Told w vb b) (hm : a.length ≤ 5000) :
    Calls Try.prog 21 #[va, vb] w fun e w' => e = .returned (.bool (decide (a = b))) ∧ ∃ k, w' = w.drewN k := by
  obtain ⟨aa, ca, rfl, _, _⟩ := ha.slice
  obtain ⟨ab, cb, rfl, _, _⟩ := hb.slice
  have HA := Lib.hid ha
  have HB := Lib.hid hb
  clear ha hb
  by_cases hlen : a.length = b.length
  · have hlI : ((a.length : Nat) : Int) = ((b.length : Nat) : Int) := by omega
    go_enter Try.func21, Try.ntmps21
    go_wp2_with fail
    clear hlI
    go_loopw [5] (fun s wr => ∃ (i k : Nat), i ≤ a.length ∧ s = .int .i64 (i : Nat) ∧ wr = w.drewN k ∧ RowKit.Hid (a.take i = b.take i)) (fun s _ => a.length - (intOf s).toNat)
    case atStart => exact ⟨0, 0, Nat.zero_le _, rfl, rfl, Lib.hid rfl⟩
    case round =>
      obtain ⟨i, kw, hi, rfl, rfl, HL⟩ := hrel
      by_cases hil : i < a.length
      · have hilb : i < b.length := by omega
        obtain ⟨bl, cl2, hv, hbl, hcell⟩ := HA.out.read (ne_nil_of_lt hil)
        cases hv
        obtain ⟨bl2, cl3, hv, hbl2, hcell2⟩ := HB.out.read (ne_nil_of_lt hilb)
        cases hv
        have hk := List.getElem?_eq_getElem hil
        have hk2 := List.getElem?_eq_getElem hilb
        generalize a[i] = k at hk
        generalize b[i] = l at hk2
        obtain ⟨k1, k2⟩ := k
        obtain ⟨l1, l2⟩ := l
        obtain ⟨e0, e1⟩ := hcell i _ hk
        obtain ⟨f0, f1⟩ := hcell2 i _ hk2
        have hiI : ((i : Nat) : Int) < ((a.length : Nat) : Int) := by omega
        have hiI2 : ((i : Nat) : Int) < ((b.length : Nat) : Int) := by omega
        have HK := Lib.hid (And.intro hk hk2)
        dsimp only at e0 e1 f0 f1
        clear hcell hcell2 hk hk2 hbl hbl2
        by_cases m1 : k1 = l1
        · by_cases m2 : k2 = l2
          · subst m1
            subst m2
            have HTK := Lib.hid (take_next HK.out.1 HK.out.2 HL.out)
            go_upto_region 6 with fail
            go_quiet (fail)
            go_wp2_with fail
            refine ⟨⟨i + 1, _, hil, by simp, rfl, HTK⟩, by simp [intOf]; omega⟩
          · have HNE := Lib.hid (show decide (a = b) = false from decide_eq_false fun e => by have h1 := HK.out.1; rw [e, HK.out.2] at h1; cases h1; exact m2 rfl)
            subst m1
            have hb2 : (k2 != l2) = true := by rw [bne_iff_ne]; exact m2
            go_upto_region 6 with fail
            go_quiet (fail)
            go_wp2_with fail
            go_ret
            exact ⟨by rw [HNE.out]; rfl, kw + nq, by rw [World.drewN_drewN]⟩
        · have HNE := Lib.hid (show decide (a = b) = false from decide_eq_false fun e => by have h1 := HK.out.1; rw [e, HK.out.2] at h1; cases h1; exact m1 rfl)
          have hb2 : (k1 != l1) = true := by rw [bne_iff_ne]; exact m1
          go_upto_region 6 with fail
          go_quiet (fail)
          go_wp2_with fail
          go_ret
          exact ⟨by rw [HNE.out]; rfl, kw + nq, by rw [World.drewN_drewN]⟩
      · have hil2 : i = a.length := by omega
        have heq : a = b := by
          have := HL.out
          rw [hil2, List.take_length, hlen, List.take_length] at this
          exact this
        have HEQ := Lib.hid (show decide (a = b) = true from decide_eq_true heq)
        clear heq
        go_wp2_with fail
        go_ret
        exact ⟨by rw [HEQ.out]; rfl, _, rfl⟩
  · have hlI : (((a.length : Nat) : Int) != ((b.length : Nat) : Int)) = true := by rw [bne_iff_ne]; omega
    have HNE := Lib.hid (show decide (a = b) = false from decide_eq_false (list_ne_of_len hlen))
    go_enter Try.func21, Try.ntmps21
    go_wp2_with fail
    go_ret
    exact ⟨by rw [HNE.out]; rfl, 0, rfl⟩

end Go.Proofs.Ytkaglggljomgdaa
