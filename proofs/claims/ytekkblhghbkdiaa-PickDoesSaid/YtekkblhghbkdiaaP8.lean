/- Parts of the proofs of layer 6 (pick): contracts of its functions, and the laws' walks. -/
import Derived.Test.YtekkblhghbkdiaaProg
import Derived.WalkKit
import Derived.WalkSpells
import Derived.WalkLawsBesides
import Derived.BigQuiet
import Derived.Deep.QuietTactic
import Derived.Lib.Hide
import Derived.Deep.RegionHeld3
import Derived.Deep.DeepCutAuto
import Derived.KernelRfl
import Derived.Deep.OwnRows
import Derived.Laws.CopyOwn
import Derived.Laws.CopyRow
import Derived.StillTailTactics
import Derived.Deep.RegionLaw
import Derived.Test.YtekkblhghbkdiaaP6
import Derived.Test.YtekkblhghbkdiaaP7
import Derived.Handy
namespace Go.Proofs.Ytekkblhghbkdiaa
open Go.RowKit
set_option linter.unusedVariables false
set_option linter.unusedSimpArgs false

/-- The heap's rows, whole. -/
def Pk (w : World) (p : Nat) (F : List Nat) (L : List E) : Prop := (∃ φ, Pq w p F L L.length φ ∧ IsPos L φ) ∧ Wl L ∧ L.length ≤ 3000
theorem Pk.lt {w : World} {p : Nat} {F : List Nat} {L : List E} (h : Pk w p F L) : ∀ b, b ∈ F → b < w.heap.size := by obtain ⟨⟨φ, h, _⟩, _⟩ := h; exact h.lt
theorem Pk.chg {w w' : World} {p : Nat} {F G G' : List Nat} {L : List E} (h : Pk w p F L) (hc : Chg G G' w w') (hs : Sep F G) : Pk w' p F L := by
  obtain ⟨⟨φ, h, hp⟩, r⟩ := h; exact ⟨⟨φ, h.chg hc hs, hp⟩, r⟩
theorem Pk.below {w w' : World} {p : Nat} {F : List Nat} {L : List E} (h : Pk w p F L) (hc : Below w.heap.size w w') : Pk w' p F L := by
  obtain ⟨⟨φ, h, hp⟩, r⟩ := h; exact ⟨⟨φ, h.below hc, hp⟩, r⟩
theorem Pk.drew {w : World} {p : Nat} {F : List Nat} {L : List E} (h : Pk w p F L) : Pk w.drew p F L := by
  obtain ⟨⟨φ, h, hp⟩, r⟩ := h; exact ⟨⟨φ, h.drew, hp⟩, r⟩
theorem Pk.drewN {w : World} {p : Nat} {F : List Nat} {L : List E} (h : Pk w p F L) (k : Nat) : Pk (w.drewN k) p F L := by
  obtain ⟨⟨φ, h, hp⟩, r⟩ := h; exact ⟨⟨φ, h.drewN k, hp⟩, r⟩
theorem wf_of {x : Int} (h : 0 ≤ x ∧ x ≤ 1023) : wf x := wf_small (by omega)
theorem Len_any (p : Nat) (F : List Nat) (L : List E) (w : World) (h : Pk w p F L) :
    Calls Try.prog 45 #[.pointer (some ⟨p, 0, none⟩)] w fun e w' => e = .returned (.int .i64 (L.length : Nat)) ∧ w = w' := by
  obtain ⟨⟨φ, h, _⟩, _⟩ := h; exact len_any p F L _ φ w h
theorem Less_any (p : Nat) (F : List Nat) (L : List E) (i j : Nat) (w : World) (h : Pk w p F L) (hi : i < L.length) (hj : j < L.length) :
    Calls Try.prog 46 #[.pointer (some ⟨p, 0, none⟩), .int .i64 (i : Nat), .int .i64 (j : Nat)] w fun e w' => e = .returned (.bool (decide (lt (g L i) (g L j)))) ∧ Below w.heap.size w w' := by
  obtain ⟨⟨φ, h, _⟩, _⟩ := h; exact less_any p F L _ φ i j w h hi hj
theorem Swap_any (p : Nat) (F : List Nat) (L : List E) (i j : Nat) (w : World) (h : Pk w p F L) (hi : i < L.length) (hj : j < L.length) (hij : i ≠ j) :
    Calls Try.prog 49 #[.pointer (some ⟨p, 0, none⟩), .int .i64 (i : Nat), .int .i64 (j : Nat)] w fun e w' => e = .returned (.tuple #[]) ∧ Chg F F w w' ∧ Pk w' p F (swp L i j) := by
  obtain ⟨⟨φ, h, hp⟩, hw, hm⟩ := h
  refine (swap_any p F L _ φ i j w h hi hj hij (by unfold maxLen; omega) (wf_of (hw.g hi)) (wf_of (hw.g hj)) (by rw [hp.at hi]; rfl) (by rw [hp.at hj]; rfl) (fun e => hij (hp.inj hi hj e)) (by omega)).mono ?_
  rintro e w' ⟨rfl, hc, hk⟩
  refine ⟨rfl, hc, ⟨_, ?_, hp.swp hi hj hij⟩, hw.perm (swp_perm hi hj), by rw [swp_length]; exact hm⟩
  rw [swp_length]
  exact hk
theorem Pop_any (p : Nat) (F : List Nat) (L : List E) (x : E) (w : World) (h : Pk w p F (L ++ [x])) :
    Calls Try.prog 47 #[.pointer (some ⟨p, 0, none⟩)] w fun e w' => e = .returned (.iface 54 (.agg #[.int .i64 x.f, .int .i64 x.w])) ∧ Chg F F w w' ∧ Pk w' p F L := by
  obtain ⟨⟨φ, h, hp⟩, hw, hm⟩ := h
  have hlen : (L ++ [x]).length = L.length + 1 := by simp
  rw [hlen] at hm h
  have hx := hp.at (i := L.length) (by omega)
  rw [g_append_eq] at hx
  refine (pop_any p F L _ φ x w h (wf_of (hw x (by simp))) (by omega) (by rw [hx]; rfl)).mono ?_
  rintro e w' ⟨rfl, hc, hk⟩
  exact ⟨rfl, hc, ⟨_, hk, hp.pop⟩, fun e he => hw e (by simp [he]), by omega⟩
theorem Push_any (p : Nat) (F : List Nat) (L : List E) (x : E) (w : World) (h : Pk w p F L) (hx : 0 ≤ x.f ∧ x.f ≤ 1023) (hm : L.length < 3000) (hn : ∀ e ∈ L, e.f ≠ x.f) :
    Calls Try.prog 48 #[.pointer (some ⟨p, 0, none⟩), .iface 54 (.agg #[.int .i64 x.f, .int .i64 x.w])] w fun e w' => e = .returned (.tuple #[]) ∧ ∃ F', Chg F F' w w' ∧ Pk w' p F' (L ++ [x]) := by
  obtain ⟨⟨φ, h, hp⟩, hw, _⟩ := h
  have h0 := hp.none.2 hn
  refine (push_any p F L _ φ x w h (wf_of hx) (by omega) (by unfold maxLen; omega) h0).mono ?_
  rintro e w' ⟨rfl, F', hc, hk⟩
  have hlen : (L ++ [x]).length = L.length + 1 := by simp
  refine ⟨rfl, F', hc, ⟨_, ?_, hp.push h0⟩, fun e he => ?_, by omega⟩
  · rw [hlen]; exact hk
  · rcases List.mem_append.1 he with he | he
    · exact hw e he
    · simp at he; subst he; exact hx
abbrev hv (p : Nat) : Value := .iface 62 (.pointer (some ⟨p, 0, none⟩))
set_option maxHeartbeats 2000000 in
theorem up_any (p : Nat) (F : List Nat) (L : List E) (j : Nat) (w : World) (h : Pk w p F L) (hj : j < L.length) :
    Calls Try.prog 27 #[hv p, .int .i64 (j : Nat)] w fun e w' => e = .returned (.tuple #[]) ∧ Chg F F w w' ∧ Pk w' p F (upf L j) := by
  have HI := Lib.hid (And.intro h hj)
  have hm := h.2.2
  clear h
  go_enter Try.func27, Try.ntmps27
  go_wp2_with fail
  go_loopw [1] (fun s wr => ∃ (j1 : Nat) (L1 : List E), j1 < L1.length ∧ L1.length ≤ 3000 ∧ s = .int .i64 (j1 : Nat) ∧ RowKit.Hid (Pk wr p F L1 ∧ Chg F F w wr ∧ upf L1 j1 = upf L j)) (fun s _ => (intOf s).toNat)
  case atStart => exact ⟨j, L, hj, hm, rfl, Lib.hid ⟨HI.out.1, Chg.refl _ _, rfl⟩⟩
  case round =>
    obtain ⟨j1, L1, hj1, hm1, rfl, HL⟩ := hrel
    by_cases h0 : j1 = 0
    · subst h0
      go_wp2_with fail
      go_end0
      have e0 := HL.out.2.2
      rw [upf_zero] at e0
      exact ⟨rfl, HL.out.2.1, by rw [← e0]; exact HL.out.1⟩
    · obtain ⟨i1, hi1⟩ : ∃ i1, (j1 - 1) / 2 = i1 := ⟨_, rfl⟩
      have hw1 : IntKind.i64.wrap (((j1 : Nat) : Int) - 1) = ((j1 - 1 : Nat) : Int) := wrap_pred (by omega) (by omega)
      have htd : (((j1 - 1 : Nat) : Int)).tdiv 2 = ((i1 : Nat) : Int) := by
        rw [← hi1, Int.tdiv_eq_ediv_of_nonneg (by omega)]; omega
      have hw2 : IntKind.i64.wrap ((i1 : Nat) : Int) = ((i1 : Nat) : Int) := by rw [IntKind.wrap_i64]; omega
      have hne : ((i1 : Nat) : Int) ≠ ((j1 : Nat) : Int) := by omega
      have hnn : i1 ≠ j1 := by omega
      have hij : i1 < j1 := by omega
      have HX := Lib.hid (And.intro h0 (And.intro hi1 (show i1 < L1.length by omega)))
      have HA := Lib.hid (Less_any p F L1 j1 i1 wr HL.out.1 hj1 (by omega))
      clear hi1 h0
      by_cases hlt : lt (g L1 j1) (g L1 i1)
      · rw [decide_eq_true hlt] at HA
        have HLT := Lib.hid hlt
        clear hlt
        go_wp2_with fail
        refine HA.out.mono ?_
        rintro e w1 ⟨rfl, hb1⟩
        have HP1 := Lib.hid (HL.out.1.below hb1)
        have HS := Lib.hid (Swap_any p F L1 i1 j1 w1 HP1.out HX.out.2.2 hj1 hnn)
        have HC := Lib.hid (HL.out.2.1.trans (Chg.of_below hb1))
        go_wp2_with fail
        refine HS.out.mono ?_
        rintro e w2 ⟨rfl, hc2, hk2⟩
        have HK := Lib.hid (And.intro hc2 hk2)
        clear hc2 hk2
        go_wp2_with fail
        refine ⟨⟨i1, swp L1 i1 j1, by rw [swp_length]; exact HX.out.2.2, by rw [swp_length]; exact hm1, rfl, Lib.hid ⟨HK.out.2, HC.out.trans HK.out.1, ?_⟩⟩, by simp [intOf, hw2]; omega⟩
        have := HL.out.2.2
        rw [upf_move HX.out.1 (by rw [HX.out.2.1]; exact HLT.out), HX.out.2.1] at this
        exact this
      · rw [decide_eq_false hlt] at HA
        have HLT := Lib.hid hlt
        clear hlt
        go_wp2_with fail
        refine HA.out.mono ?_
        rintro e w1 ⟨rfl, hb1⟩
        have HP1 := Lib.hid (HL.out.1.below hb1)
        have HC := Lib.hid (HL.out.2.1.trans (Chg.of_below hb1))
        go_wp2_with fail
        go_end0
        have := HL.out.2.2
        rw [upf_rest HX.out.1 (by rw [HX.out.2.1]; exact HLT.out)] at this
        exact ⟨rfl, HC.out, by rw [← this]; exact HP1.out⟩

end Go.Proofs.Ytekkblhghbkdiaa
