/- Parts of the proofs of layer 19 (radix): contracts of its functions, and the laws' walks. -/
import Derived.Test.YtdnnfoojdfmajaaProg
import Derived.WalkKit
import Derived.WalkSpells
import Derived.WalkLawsBesides
import Derived.BigQuiet
import Derived.Deep.QuietTactic
import Derived.Lib.Hide
import Derived.Deep.RegionHeld3
import Derived.Deep.DeepCutAuto
import Derived.KernelRfl
import Derived.Deep.OwnRows
import Derived.Laws.CopyOwn
import Derived.Laws.CopyRow
import Derived.StillTailTactics
import Derived.Deep.RegionLaw
import Derived.Handy
import Derived.Deep.CutRange
import Derived.Deep.CutBlock
import Derived.Test.YtdnnfoojdfmajaaX15
namespace Go.Proofs.Ytdnnfoojdfmajaa
open Go.RowKit
set_option linter.unusedVariables false
set_option linter.unusedSimpArgs false

/-- What alike tells of a node's slots. -/
def Alk (σ : St) (κ P : Nat) (c : Int) : Prop :=
  (∃ i, i < 8 ∧ (∀ j, j < i → σ.bel κ (8 * P + j) = none ∧ σ.E κ (8 * P + j) ≠ none) ∧ ((σ.bel κ (8 * P + i) ≠ none ∧ c = 5) ∨ (σ.bel κ (8 * P + i) = none ∧ σ.E κ (8 * P + i) = none ∧ c = 6))) ∨
  ((∀ j, j < 8 → σ.bel κ (8 * P + j) = none ∧ σ.E κ (8 * P + j) ≠ none) ∧
    ((c = 5 ∧ ¬ ((∀ i, 1 ≤ i → i < 8 → σ.V κ (8 * P + i) - σ.V κ (8 * P + (i - 1)) = σ.V κ (8 * P + 1) - σ.V κ (8 * P + 0)) ∧ ∀ m, m < 3 → any8 (fun s => σ.M κ (8 * P + s) m) = false ∨ all8 (fun s => σ.M κ (8 * P + s) m) = true)) ∨
     (c = 0 ∧ (∀ i, 1 ≤ i → i < 8 → σ.V κ (8 * P + i) - σ.V κ (8 * P + (i - 1)) = σ.V κ (8 * P + 1) - σ.V κ (8 * P + 0)) ∧ ∀ m, m < 3 → any8 (fun s => σ.M κ (8 * P + s) m) = false ∨ all8 (fun s => σ.M κ (8 * P + s) m) = true)))
theorem ent_cell {w : World} {t : Nat} {σ : St} {many nodes : Int} {F : List Nat} {κ P b : Nat} (h : Hp w t σ many nodes F) (hb : σ.N κ P = some b) {i : Nat} (hi : i < 8) (hn : σ.E κ (8 * P + i) ≠ none) :
    ∃ x, w.cell? ⟨b, 8 + i, none⟩ = some (.pointer (some ⟨x, 0, none⟩)) ∧ w.cell? ⟨x, 0, none⟩ = some (.int .i64 (σ.V κ (8 * P + i))) := by
  cases hE : σ.E κ (8 * P + i) with
  | none => exact absurd hE hn
  | some x =>
    have h1 := h.ecell hb hi
    rw [hE] at h1
    exact ⟨x, h1, (h.vcell hE).1⟩
set_option maxRecDepth 100000 in
set_option maxHeartbeats 8000000 in
theorem alike_any (κ P b t : Nat) (σ : St) (many nodes : Int) (F : List Nat) (w : World) (h : Hp w t σ many nodes F) (hb : σ.N κ P = some b) (hV : ∀ i, i < 8 → -1152921504606846976 ≤ σ.V κ (8 * P + i) ∧ σ.V κ (8 * P + i) ≤ 1152921504606846976 ∨ σ.E κ (8 * P + i) = none) :
    Calls Try.prog 39 #[.pointer (some ⟨b, 0, none⟩)] w fun e w' => Below w.heap.size w w' ∧ ∃ c, e = .returned (.int .i64 c) ∧ Alk σ κ P c := by
  have HH := Lib.hid (And.intro h hb)
  have HV := Lib.hid hV
  clear h hb hV
  go_enter Try.func39, Try.ntmps39
  go_wp2_with fail
  go_loopw [7] (fun st wx => ∃ n : Nat, n ≤ 8 ∧ st = .int .i64 (n : Nat) ∧ w = wx ∧ RowKit.Hid (∀ j, j < n → σ.bel κ (8 * P + j) = none ∧ σ.E κ (8 * P + j) ≠ none)) (fun st _ => 8 - (intOf st).toNat)
  case atStart => exact ⟨0, by omega, rfl, rfl, Lib.hid fun j hj => absurd hj (Nat.not_lt_zero _)⟩
  case round =>
    obtain ⟨n, hn, rfl, rfl, HL⟩ := hrel
    by_cases hn8 : n < 8
    · have hnI : ((n : Nat) : Int) < 8 := by omega
      have hbc := HH.out.1.bcell HH.out.2 hn8
      have hec := HH.out.1.ecell HH.out.2 hn8
      cases hB : σ.bel κ (8 * P + n) with
      | some c =>
        rw [hB] at hbc
        have hbc' : w.cell? ⟨b, n, none⟩ = some (.pointer (some ⟨c, 0, none⟩)) := hbc
        have HB := Lib.hid hB
        clear hbc hec hB
        go_wp2_with fail
        go_ret
        exact ⟨Below.refl _ _, 5, rfl, .inl ⟨n, hn8, HL.out, .inl ⟨by rw [HB.out]; simp, rfl⟩⟩⟩
      | none =>
        rw [hB] at hbc
        have hbc' : w.cell? ⟨b, n, none⟩ = some (.pointer none) := hbc
        have HB := Lib.hid hB
        clear hbc hB
        cases hE : σ.E κ (8 * P + n) with
        | none =>
          rw [hE] at hec
          have hec' : w.cell? ⟨b, 8 + n, none⟩ = some (.pointer none) := hec
          have HE := Lib.hid hE
          clear hec hE
          go_wp2_with fail
          go_ret
          exact ⟨Below.refl _ _, 6, rfl, .inl ⟨n, hn8, HL.out, .inr ⟨HB.out, HE.out, rfl⟩⟩⟩
        | some x =>
          rw [hE] at hec
          have hec' : w.cell? ⟨b, 8 + n, none⟩ = some (.pointer (some ⟨x, 0, none⟩)) := hec
          have HE := Lib.hid hE
          clear hec hE
          go_wp2_with fail
          exact ⟨⟨n + 1, by omega, by simp, by first | trivial | rfl, Lib.hid fun j hj => by
            by_cases hjn : j = n
            · subst hjn; exact ⟨HB.out, by rw [HE.out]; simp⟩
            · exact HL.out j (by omega)⟩, by simp [intOf]; omega⟩
    · obtain rfl : n = 8 := by omega
      obtain ⟨x0, e0, v0⟩ := ent_cell HH.out.1 HH.out.2 (by omega) (HL.out 0 (by omega)).2
      obtain ⟨x1, e1, v1⟩ := ent_cell HH.out.1 HH.out.2 (by omega) (HL.out 1 (by omega)).2
      have hv0 := (HV.out 0 (by omega)).resolve_right (HL.out 0 (by omega)).2
      have hv1 := (HV.out 1 (by omega)).resolve_right (HL.out 1 (by omega)).2
      obtain ⟨st, hst⟩ : ∃ st, σ.V κ (8 * P + 1) - σ.V κ (8 * P + 0) = st := ⟨_, rfl⟩
      have q1 : IntKind.i64.wrap (σ.V κ (8 * P + 1) - σ.V κ (8 * P + 0)) = st := by rw [IntKind.wrap_i64]; omega
      have HST := Lib.hid hst
      have HSTT := Lib.hid hst
      obtain ⟨y1, hy1⟩ : ∃ y, σ.V κ (8 * P + 1) = y := ⟨_, rfl⟩
      obtain ⟨y0, hy0⟩ : ∃ y, σ.V κ (8 * P + 0) = y := ⟨_, rfl⟩
      rw [hy1] at v1 q1
      rw [hy0] at v0 q1
      clear hv0 hv1 hst hy1 hy0 HST
      have e0' : w.cell? ⟨b, 8, none⟩ = some (.pointer (some ⟨x0, 0, none⟩)) := e0
      have e1' : w.cell? ⟨b, 9, none⟩ = some (.pointer (some ⟨x1, 0, none⟩)) := e1
      go_upto_region 9 with fail
      go_quiet (fail)
      have HW := Lib.hid (And.intro (below_drewN (Below.refl w.heap.size w) nq) (HH.out.1.drewN nq))
      clear e0 e1 e0' e1' v0 v1 q1
      generalize w.drewN nq = w1 at *
      go_wp2_with fail
      go_loopw [5] (fun st' wx => ∃ n : Nat, 1 ≤ n ∧ n ≤ 8 ∧ st' = .int .i64 (n : Nat) ∧ RowKit.Hid (Below w.heap.size w wx ∧ Hp wx t σ many nodes F ∧ ∀ i, 1 ≤ i → i < n → σ.V κ (8 * P + i) - σ.V κ (8 * P + (i - 1)) = st)) (fun st' _ => 8 - (intOf st').toNat)
      case atStart => exact ⟨1, by omega, by omega, rfl, Lib.hid ⟨HW.out.1, HW.out.2, fun i h1 h2 => by omega⟩⟩
      case round =>
        obtain ⟨n, hn1, hn, rfl, HM⟩ := hrel
        clear HW
        by_cases hn8 : n < 8
        · have hnI : ((n : Nat) : Int) < 8 := by omega
          obtain ⟨m, rfl⟩ : ∃ m, n = m + 1 := ⟨n - 1, by omega⟩
          have hmI : ((m : Nat) : Int) < 8 := by omega
          have hm8 : ((m : Nat) : Int) + 1 < 8 := by omega
          obtain ⟨xa, ea, va⟩ := ent_cell HM.out.2.1 HH.out.2 (i := m + 1) (by omega) (HL.out (m + 1) (by omega)).2
          obtain ⟨xb, eb, vb⟩ := ent_cell HM.out.2.1 HH.out.2 (i := m) (by omega) (HL.out m (by omega)).2
          have hva := (HV.out (m + 1) (by omega)).resolve_right (HL.out (m + 1) (by omega)).2
          have hvb := (HV.out m (by omega)).resolve_right (HL.out m (by omega)).2
          obtain ⟨ya, hya⟩ : ∃ y, σ.V κ (8 * P + (m + 1)) = y := ⟨_, rfl⟩
          obtain ⟨yb, hyb⟩ : ∃ y, σ.V κ (8 * P + m) = y := ⟨_, rfl⟩
          have HY := Lib.hid (And.intro hya hyb)
          rw [hya] at va hva
          rw [hyb] at vb hvb
          have q1 : IntKind.i64.wrap (ya - yb) = ya - yb := by rw [IntKind.wrap_i64]; omega
          have hyr : -9223372036854775808 ≤ ya - yb ∧ ya - yb ≤ 9223372036854775807 := by omega
          clear hya hyb hva hvb
          have ea' : wr.cell? ⟨b, 8 + (m + 1), none⟩ = some (.pointer (some ⟨xa, 0, none⟩)) := ea
          clear ea
          by_cases hd : ya - yb = st
          · have q2 : wrap64 st = st := IntWalk.wrap64_in _ (by rw [← hd]; exact hyr)
            clear hyr
            go_upto_region 13 with fail
            go_quiet (fail)
            have HN := Lib.hid (And.intro (below_drewN HM.out.1 nq) (HM.out.2.1.drewN nq))
            have HD := Lib.hid hd
            clear ea' va vb q1 eb
            go_wp2_with fail
            clear hd
            exact ⟨⟨m + 1 + 1, by omega, by omega, by simp, Lib.hid ⟨HN.out.1, HN.out.2, fun i h1 h2 => by
              by_cases him : i = m + 1
              · subst him; rw [Nat.add_sub_cancel, HY.out.1, HY.out.2]; exact HD.out
              · exact HM.out.2.2 i h1 (by omega)⟩⟩, by show 8 - (((m : Nat) : Int) + 1 + 1).toNat < 8 - (((m + 1 : Nat) : Int)).toNat; omega⟩
          · go_upto_region 13 with fail
            go_quiet (fail)
            have HN := Lib.hid (below_drewN HM.out.1 nq)
            clear ea' va vb q1 eb
            go_wp2_with fail
            go_ret
            exact ⟨HN.out, 5, rfl, .inr ⟨HL.out, .inl ⟨rfl, fun hu => hd (by have := hu.1 (m + 1) (by omega) (by omega); rw [Nat.add_sub_cancel, HY.out.1, HY.out.2] at this; rw [this]; exact HSTT.out)⟩⟩⟩
        · obtain rfl : n = 8 := by omega
          go_wp2_with fail
          go_loopw [68] (fun st' wx => ∃ n : Nat, n ≤ 3 ∧ st' = .int .i64 (n : Nat) ∧ RowKit.Hid (Below w.heap.size w wx ∧ Hp wx t σ many nodes F ∧ ∀ m, m < n → any8 (fun s => σ.M κ (8 * P + s) m) = false ∨ all8 (fun s => σ.M κ (8 * P + s) m) = true)) (fun st' _ => 3 - (intOf st').toNat)
          case atStart => exact ⟨0, by omega, rfl, Lib.hid ⟨HM.out.1, HM.out.2.1, fun i h1 => absurd h1 (Nat.not_lt_zero _)⟩⟩
          case round =>
            obtain ⟨n, hn, rfl, HO⟩ := hrel
            by_cases hn3 : n < 3
            · have hnI : ((n : Nat) : Int) < 3 := by omega
              have hmc := HO.out.2.1.mcell HH.out.2 hn3
              by_cases ha : any8 (fun s => σ.M κ (8 * P + s) n) = false
              · rw [byt_zero.2 ha] at hmc
                have HA := Lib.hid ha
                clear ha
                go_wp2_with fail
                exact ⟨⟨n + 1, by omega, by simp, Lib.hid ⟨HO.out.1, HO.out.2.1, fun i h1 => by
                  by_cases hin : i = n
                  · subst hin; exact .inl HA.out
                  · exact HO.out.2.2 i (by omega)⟩⟩, by simp [intOf]; omega⟩
              · have h0 : ¬ ((byt fun s => σ.M κ (8 * P + s) n) = 0) := fun h => ha (byt_zero.1 h)
                by_cases hb : all8 (fun s => σ.M κ (8 * P + s) n) = true
                · rw [byt_full.2 hb] at hmc
                  have HA := Lib.hid hb
                  clear ha hb h0
                  go_wp2_with fail
                  exact ⟨⟨n + 1, by omega, by simp, Lib.hid ⟨HO.out.1, HO.out.2.1, fun i h1 => by
                    by_cases hin : i = n
                    · subst hin; exact .inr HA.out
                    · exact HO.out.2.2 i (by omega)⟩⟩, by simp [intOf]; omega⟩
                · have h1 : ¬ ((byt fun s => σ.M κ (8 * P + s) n) = 255) := fun h => hb (byt_full.1 h)
                  have HA := Lib.hid (And.intro ha hb)
                  clear ha hb
                  generalize (byt fun s => σ.M κ (8 * P + s) n) = y at *
                  have h2 : (y != 0) = true := by simp [h0]
                  have h3 : (y != 255) = true := by simp [h1]
                  have h4 : (y == 0) = false := by simp [h0]
                  have h5 : (y == 255) = false := by simp [h1]
                  go_wp2_with fail
                  go_ret
                  exact ⟨HO.out.1, 5, rfl, .inr ⟨HL.out, .inl ⟨rfl, fun hu => (hu.2 n (by omega)).elim HA.out.1 HA.out.2⟩⟩⟩
            · obtain rfl : n = 3 := by omega
              go_wp2_with fail
              go_ret
              exact ⟨HO.out.1, 0, rfl, .inr ⟨HL.out, .inr ⟨rfl, fun i h1 h2 => (HM.out.2.2 i h1 h2).trans HSTT.out.symm, HO.out.2.2⟩⟩⟩

end Go.Proofs.Ytdnnfoojdfmajaa
