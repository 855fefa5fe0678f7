/- Parts of the proofs of layer 19 (radix): contracts of its functions, and the laws' walks. -/
import Derived.Test.YtdnnfoojdfmajaaProg
import Derived.WalkKit
import Derived.WalkSpells
import Derived.WalkLawsBesides
import Derived.BigQuiet
import Derived.Deep.QuietTactic
import Derived.Lib.Hide
import Derived.Deep.RegionHeld3
import Derived.Deep.DeepCutAuto
import Derived.KernelRfl
import Derived.Deep.OwnRows
import Derived.Laws.CopyOwn
import Derived.Laws.CopyRow
import Derived.StillTailTactics
import Derived.Deep.RegionLaw
import Derived.Handy
import Derived.Deep.CutRange
import Derived.Deep.CutBlock
import Derived.Test.YtdnnfoojdfmajaaX12
namespace Go.Proofs.Ytdnnfoojdfmajaa
open Go.RowKit
set_option linter.unusedVariables false
set_option linter.unusedSimpArgs false

def okS (v step : Int) : Prop := -384307168202282325 ≤ step ∧ step ≤ 384307168202282325 ∧ -1152921504606846976 ≤ v + 7 * step ∧ v + 7 * step ≤ 1152921504606846976
instance (v step : Int) : Decidable (okS v step) := by unfold okS; infer_instance
theorem Split_nil (page step : Int) (w : World) : Calls Try.prog 21 #[.pointer none, .int .i64 page, .int .i64 step] w fun e w' => e = .returned (.int .i64 1) ∧ Below w.heap.size w w' := by
  go_enter Try.func21, Try.ntmps21
  go_wp2_with (go_at_call 32; refine (find_nil page _).mono ?_; rintro e w1 ⟨rfl, rfl⟩)
  go_ret
  exact ⟨rfl, Below.refl _ _⟩
theorem Split_out (page step : Int) (t : Nat) (w : World) (h : ¬ (0 ≤ page ∧ page < 4096)) : Calls Try.prog 21 #[.pointer (some ⟨t, 0, none⟩), .int .i64 page, .int .i64 step] w fun e w' => e = .returned (.int .i64 3) ∧ Below w.heap.size w w' := by
  go_enter Try.func21, Try.ntmps21
  go_wp2_with (go_at_call 32; refine (find_out page t _ h).mono ?_; rintro e w1 ⟨rfl, rfl⟩)
  go_ret
  exact ⟨rfl, Below.refl _ _⟩
theorem Split_nf (g t : Nat) (step : Int) (σ : St) (many nodes : Int) (F : List Nat) (w : World) (hg : g < 4096) (h : Hp w t σ many nodes F) (hn : Nf σ g) : Calls Try.prog 21 #[.pointer (some ⟨t, 0, none⟩), .int .i64 (g : Nat), .int .i64 step] w fun e w' => e = .returned (.int .i64 6) ∧ Below w.heap.size w w' := by
  have HN := Lib.hid (And.intro h hn)
  clear h hn
  go_enter Try.func21, Try.ntmps21
  go_wp2_with fail
  refine (find_nf g t σ many nodes F w hg HN.out.1 HN.out.2).mono ?_
  rintro e w2 ⟨hb2, rfl⟩
  have HB := Lib.hid hb2
  clear hb2
  go_wp2_with fail
  go_ret
  exact ⟨rfl, HB.out⟩
set_option maxHeartbeats 4000000 in
theorem Split_zero (g t : Nat) (step : Int) (σ : St) (many nodes : Int) (F : List Nat) (κ x : Nat) (l : List Nat) (w : World) (hg : g < 4096) (h : Hp w t σ many nodes F) (hA : At σ g κ l) (hE : σ.E κ (g / 8 ^ κ) = some x) (hκ : κ = 0) : Calls Try.prog 21 #[.pointer (some ⟨t, 0, none⟩), .int .i64 (g : Nat), .int .i64 step] w fun e w' => e = .returned (.int .i64 2) ∧ Below w.heap.size w w' := by
  subst hκ
  have HH := Lib.hid h
  go_enter Try.func21, Try.ntmps21
  go_wp2_with fail
  refine (find_found g t σ many nodes F 0 x l w hg h hA hE).mono ?_
  rintro e w2 ⟨hb2, m, b, vb, cap, hf, rfl⟩
  clear h
  have H2 := Lib.hid (HH.out.below hb2)
  have HF := Lib.hid hf
  have hs8 : g / 8 ^ 0 % 8 < 8 := by omega
  have hm3 : m ≤ 3 := by have := hf.mq; omega
  have hκ3 := hf.at_.le
  have HQ := Lib.hid (bel_eq (g := g) (k := 0))
  have hlst := hf.lst
  have hcell := H2.out.ecell hf.nb hs8
  rw [HQ.out, hf.ex] at hcell
  have hecell : w2.cell? ⟨b, 8 + g / 8 ^ 0 % 8, none⟩ = some (.pointer (some ⟨x, 0, none⟩)) := hcell
  obtain ⟨hvc, hvf⟩ := H2.out.vcell hf.ex
  have HS := Lib.hid (fun W => (slot_at g 0 0 hg hκ3 rfl W).mono fun _ _ h => (⟨h.1, h.2.symm⟩ : _ ∧ _))
  have p0 : ¬ (((m : Nat) : Int) + 1 = 0) := by omega
  have p1 : IntKind.i64.wrap ((m : Nat) : Int) = ((m : Nat) : Int) := by rw [IntKind.wrap_i64]; omega
  have p2 : ((m : Nat) : Int) < ((m : Nat) : Int) + 1 := by omega
  have h1 : ((g / 8 ^ 0 % 8 : Nat) : Int) < 8 := by omega
  have HB2 := Lib.hid hb2
  clear hcell hf hb2
  generalize hs : g / 8 ^ 0 % 8 = s at *
  have HSS := Lib.hid hs
  clear hs
  obtain ⟨v, hv⟩ : ∃ v, σ.V 0 (g / 8 ^ 0) = v := ⟨_, rfl⟩
  have HV := Lib.hid hv
  rw [hv] at hvc 
  clear hv
  go_wp2_with fail
  refine (HS.out _).mono ?_
  rintro e w3 ⟨rfl, rfl⟩
  go_wp2_with fail
  go_ret
  exact ⟨rfl, HB2.out⟩

set_option maxHeartbeats 4000000 in
theorem Split_rng (g t : Nat) (step : Int) (σ : St) (many nodes : Int) (F : List Nat) (κ x : Nat) (l : List Nat) (w : World) (hg : g < 4096) (h : Hp w t σ many nodes F) (hA : At σ g κ l) (hE : σ.E κ (g / 8 ^ κ) = some x) (hκ : κ ≠ 0) (hvb : -1152921504606846976 ≤ σ.V κ (g / 8 ^ κ) ∧ σ.V κ (g / 8 ^ κ) ≤ 1152921504606846976) (hok : ¬ okS (σ.V κ (g / 8 ^ κ)) step) : Calls Try.prog 21 #[.pointer (some ⟨t, 0, none⟩), .int .i64 (g : Nat), .int .i64 step] w fun e w' => e = .returned (.int .i64 3) ∧ Below w.heap.size w w' := by
  have HH := Lib.hid h
  go_enter Try.func21, Try.ntmps21
  go_wp2_with fail
  refine (find_found g t σ many nodes F κ x l w hg h hA hE).mono ?_
  rintro e w2 ⟨hb2, m, b, vb, cap, hf, rfl⟩
  clear h
  have H2 := Lib.hid (HH.out.below hb2)
  have HF := Lib.hid hf
  have hs8 : g / 8 ^ κ % 8 < 8 := by omega
  have hm3 : m ≤ 3 := by have := hf.mq; omega
  have hκ3 := hf.at_.le
  have HQ := Lib.hid (bel_eq (g := g) (k := κ))
  have hlst := hf.lst
  have hcell := H2.out.ecell hf.nb hs8
  rw [HQ.out, hf.ex] at hcell
  have hecell : w2.cell? ⟨b, 8 + g / 8 ^ κ % 8, none⟩ = some (.pointer (some ⟨x, 0, none⟩)) := hcell
  obtain ⟨hvc, hvf⟩ := H2.out.vcell hf.ex
  have HS := Lib.hid (fun W => (slot_any g κ hg hκ3 W).mono fun _ _ h => (⟨h.1, h.2.symm⟩ : _ ∧ _))
  have p0 : ¬ (((m : Nat) : Int) + 1 = 0) := by omega
  have p1 : IntKind.i64.wrap ((m : Nat) : Int) = ((m : Nat) : Int) := by rw [IntKind.wrap_i64]; omega
  have p2 : ((m : Nat) : Int) < ((m : Nat) : Int) + 1 := by omega
  have h1 : ((g / 8 ^ κ % 8 : Nat) : Int) < 8 := by omega
  have HB2 := Lib.hid hb2
  clear hcell hf hb2
  generalize hs : g / 8 ^ κ % 8 = s at *
  have HSS := Lib.hid hs
  clear hs
  obtain ⟨v, hv⟩ : ∃ v, σ.V κ (g / 8 ^ κ) = v := ⟨_, rfl⟩
  have HV := Lib.hid hv
  rw [hv] at hvc hok hvb
  clear hv
  go_wp2_with fail
  refine (HS.out _).mono ?_
  rintro e w3 ⟨rfl, rfl⟩
  have hκI : ¬ (((κ : Nat) : Int) = 0) := by omega
  by_cases c1 : step < -384307168202282325
  · go_wp2_with fail
    go_ret
    exact ⟨rfl, HB2.out⟩
  · by_cases c2 : 384307168202282325 < step
    · go_wp2_with fail
      go_ret
      exact ⟨rfl, HB2.out⟩
    · have HI := Lib.hid (fun W => small_any (v + 7 * step) W)
      simp only [decide_eq_false (fun h => hok ⟨by omega, by omega, h⟩ : ¬ (-1152921504606846976 ≤ v + 7 * step ∧ v + 7 * step ≤ 1152921504606846976))] at HI
      have q1 : IntKind.i64.wrap (7 * step) = 7 * step := by rw [IntKind.wrap_i64]; omega
      have q2 : IntKind.i64.wrap (v + 7 * step) = v + 7 * step := by rw [IntKind.wrap_i64]; omega
      clear hok
      go_wp2_with (go_at_call 38; refine (HI.out _).mono ?_; rintro e w4 ⟨rfl, rfl⟩)
      go_ret
      exact ⟨rfl, HB2.out⟩

end Go.Proofs.Ytdnnfoojdfmajaa
