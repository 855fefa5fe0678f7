/- Parts of the proofs of layer 19 (radix): contracts of its functions, and the laws' walks. -/
import Derived.Test.YtdnnfoojdfmajaaProg
import Derived.WalkKit
import Derived.WalkSpells
import Derived.WalkLawsBesides
import Derived.BigQuiet
import Derived.Deep.QuietTactic
import Derived.Lib.Hide
import Derived.Deep.RegionHeld3
import Derived.Deep.DeepCutAuto
import Derived.KernelRfl
import Derived.Deep.OwnRows
import Derived.Laws.CopyOwn
import Derived.Laws.CopyRow
import Derived.StillTailTactics
import Derived.Deep.RegionLaw
import Derived.Handy
import Derived.Deep.CutRange
import Derived.Deep.CutBlock
import Derived.Test.YtdnnfoojdfmajaaX6
namespace Go.Proofs.Ytdnnfoojdfmajaa
open Go.RowKit
set_option linter.unusedVariables false
set_option linter.unusedSimpArgs false

theorem b1_eq (v : Bool) : (b1 v == 1) = v := by cases v <;> rfl
theorem Marked_nil (page mark : Int) (w : World) : Calls Try.prog 25 #[.pointer none, .int .i64 page, .int .i64 mark] w fun e w' => e = .returned (.bool false) ∧ Below w.heap.size w w' := by
  go_enter Try.func25, Try.ntmps25
  go_wp2_with fail
  refine (find_nil page _).mono ?_
  rintro e w2 ⟨rfl, rfl⟩
  go_upto_region 2 with fail
  go_quiet (fail)
  go_wp2_with fail
  go_ret
  exact ⟨rfl, below_drewN (Below.refl _ _) nq⟩
theorem Marked_out (page mark : Int) (t : Nat) (w : World) (h : ¬ (0 ≤ page ∧ page < 4096)) : Calls Try.prog 25 #[.pointer (some ⟨t, 0, none⟩), .int .i64 page, .int .i64 mark] w fun e w' => e = .returned (.bool false) ∧ Below w.heap.size w w' := by
  go_enter Try.func25, Try.ntmps25
  go_wp2_with fail
  refine (find_out page t _ h).mono ?_
  rintro e w2 ⟨rfl, rfl⟩
  go_upto_region 2 with fail
  go_quiet (fail)
  go_wp2_with fail
  go_ret
  exact ⟨rfl, below_drewN (Below.refl _ _) nq⟩
set_option maxHeartbeats 4000000 in
theorem Marked_any (g t : Nat) (mark : Int) (σ : St) (many nodes : Int) (F : List Nat) (w : World) (hg : g < 4096) (h : Hp w t σ many nodes F) :
    Calls Try.prog 25 #[.pointer (some ⟨t, 0, none⟩), .int .i64 (g : Nat), .int .i64 mark] w fun e w' => Below w.heap.size w w' ∧ ((Nf σ g ∧ e = .returned (.bool false)) ∨
      ∃ κ x l, At σ g κ l ∧ σ.E κ (g / 8 ^ κ) = some x ∧ ((¬ (0 ≤ mark ∧ mark < 3) ∧ e = .returned (.bool false)) ∨ (0 ≤ mark ∧ mark < 3) ∧ e = .returned (.bool (σ.M κ (g / 8 ^ κ) mark.toNat)))) := by
  have HH := Lib.hid h
  go_enter Try.func25, Try.ntmps25
  go_wp2_with fail
  refine (find_any g t σ many nodes F w hg HH.out).mono ?_
  rintro e w2 ⟨hb2, he⟩
  rcases he with ⟨hn, rfl⟩ | ⟨κ, m, l, b, x, vb, cap, hf, rfl⟩
  · have HN := Lib.hid (And.intro hn hb2)
    clear hn hb2
    go_upto_region 2 with fail
    go_quiet (fail)
    go_wp2_with fail
    go_ret
    exact ⟨below_drewN HN.out.2 nq, .inl ⟨HN.out.1, rfl⟩⟩
  · by_cases hm : 0 ≤ mark ∧ mark < 3
    · have HI := Lib.hid (fun W => marked_any mark W)
      simp only [decide_eq_true hm] at HI
      obtain ⟨mk, rfl⟩ : ∃ mk : Nat, mark = (mk : Nat) := ⟨mark.toNat, by omega⟩
      have hmk : mk < 3 := by omega
      have H2 := Lib.hid (HH.out.below hb2)
      have HF := Lib.hid hf
      have hs8 : g / 8 ^ κ % 8 < 8 := by omega
      have hm3 : m ≤ 3 := by have := hf.mq; omega
      have hκ3 := hf.at_.le
      have HQ := Lib.hid (bel_eq (g := g) (k := κ))
      have hlst := hf.lst
      have hcell := H2.out.ecell hf.nb hs8
      rw [HQ.out, hf.ex] at hcell
      have hecell : w2.cell? ⟨b, 8 + g / 8 ^ κ % 8, none⟩ = some (.pointer (some ⟨x, 0, none⟩)) := hcell
      obtain ⟨hvc, hvf⟩ := H2.out.vcell hf.ex
      have HS := Lib.hid (fun W => (slot_any g κ hg hκ3 W).mono fun _ _ h => (⟨h.1, h.2.symm⟩ : _ ∧ _))
      have p0 : ¬ (((m : Nat) : Int) + 1 = 0) := by omega
      have p1 : IntKind.i64.wrap ((m : Nat) : Int) = ((m : Nat) : Int) := by rw [IntKind.wrap_i64]; omega
      have p2 : ((m : Nat) : Int) < ((m : Nat) : Int) + 1 := by omega
      have h1 : ((g / 8 ^ κ % 8 : Nat) : Int) < 8 := by omega
      have HB2 := Lib.hid hb2
      clear hcell hf hb2
      generalize hs : g / 8 ^ κ % 8 = s at *
      have HSS := Lib.hid hs
      clear hs
      have hmc := H2.out.mcell HF.out.nb hmk
      have hbit : bits .and .u8 ((byt fun s => σ.M κ (8 * (g / 8 ^ (κ + 1)) + s) mk).fdiv (2 ^ s)) 1 = b1 (σ.M κ (8 * (g / 8 ^ (κ + 1)) + s) mk) := byt_get (fun s => σ.M κ (8 * (g / 8 ^ (κ + 1)) + s) mk) hs8
      rw [HQ.out] at hbit
      have hrng := byt_range (fun s => σ.M κ (8 * (g / 8 ^ (κ + 1)) + s) mk)
      generalize byt (fun s => σ.M κ (8 * (g / 8 ^ (κ + 1)) + s) mk) = y at *
      rw [Int.fdiv_eq_ediv_of_nonneg _ (by exact_mod_cast Nat.zero_le _)] at hbit
      have hmI : ((mk : Nat) : Int) < 3 := by omega
      have hsI : ((s : Nat) : Int) < 8 := by omega
      go_upto_region 2 with fail
      go_quiet ((first | (go_at_call 41; exact Calls.quiet_of_same ((HI.out _).mono fun _ _ h => ⟨h.1, h.2.symm⟩)) | (go_at_call 33; exact Calls.quiet_of_same (HS.out _))))
      go_wp2_with fail
      go_ret
      exact ⟨below_drewN HB2.out nq, .inr ⟨κ, x, l, HF.out.at_, HF.out.ex, .inr ⟨by omega, by rw [b1_eq]; rfl⟩⟩⟩
    · have HI := Lib.hid (fun W => marked_any mark W)
      simp only [decide_eq_false hm] at HI
      have HN := Lib.hid (And.intro hf (And.intro hb2 hm))
      clear hf hb2 hm
      go_upto_region 2 with fail
      go_quiet ((go_at_call 41; exact Calls.quiet_of_same ((HI.out _).mono fun _ _ h => ⟨h.1, h.2.symm⟩)))
      go_wp2_with fail
      go_ret
      exact ⟨below_drewN HN.out.2.1 nq, .inr ⟨κ, x, l, HN.out.1.at_, HN.out.1.ex, .inl ⟨HN.out.2.2, rfl⟩⟩⟩

end Go.Proofs.Ytdnnfoojdfmajaa
