/- Parts of the proofs of layer 7 (walk): contracts of its functions, and the laws' walks. -/
import Derived.Test.YtfolbfacnlhlmaaProg
import Derived.WalkKit
import Derived.WalkSpells
import Derived.WalkLawsBesides
import Derived.BigQuiet
import Derived.Deep.QuietTactic
import Derived.Lib.Hide
import Derived.Deep.RegionHeld3
import Derived.Deep.DeepCutAuto
import Derived.KernelRfl
import Derived.Deep.OwnRows
import Derived.Laws.CopyOwn
import Derived.Laws.CopyRow
import Derived.StillTailTactics
import Derived.Deep.RegionLaw
import Derived.Test.YtfolbfacnlhlmaaW4
import Derived.Test.YtfolbfacnlhlmaaSq
namespace Go.Proofs.Ytfolbfacnlhlmaa
open Go.RowKit
set_option linter.unusedVariables false
set_option linter.unusedSimpArgs false

/-- Are all frames of something there, of an order? -/
def thr (n : Nat) (fr o : Int) : Bool := G.evn fr o && decide (fr ≤ (n : Int) / 64 - 2 ^ o.toNat)
set_option maxHeartbeats 1000000 in
theorem there_any (g b n B : Nat) (f : Nat → Int) (fr o : Int) (w : World) (h : Mem w g b n f) (hf : 0 ≤ fr ∧ fr < 1048576) (ho : o = 0 ∨ o = 3 ∨ o = 6) (hc : w.cell? ⟨B, 0, none⟩ = some (.pointer (some ⟨g, 0, none⟩))) :
    Calls Try.prog 33 #[.int .i64 fr, .int .i64 o, .pointer (some ⟨B, 0, none⟩)] w fun e w' => e = .returned (.bool (thr n fr o)) ∧ ∃ k, w' = w.drewN k := by
  have hn : n ≤ 65536 := h.2.2.2.2.1
  unfold thr
  have he := fun w => G.even_any fr o w (by omega) (by omega)
  generalize G.evn fr o = q at he ⊢
  have HE := Lib.hid he
  clear he
  have H := Lib.hid h
  clear h
  rcases ho with rfl | rfl | rfl
  all_goals
    go_enter Try.func33, Try.ntmps33
    go_wp2_with fail
    cases q
    all_goals
      go_quiet ((first | (go_at_call 34; exact Calls.quiet_of_same ((HE.out _).mono fun _ _ h => ⟨h.1, h.2.symm⟩)) | (go_at_call 21; exact Calls.quiet_of_same ((frames_any g b n f _ (H.out.drewN _)).mono fun _ _ h => ⟨h.1, h.2.symm⟩))))
      go_wp2
      go_ret
      exact ⟨rfl, _, rfl⟩

end Go.Proofs.Ytfolbfacnlhlmaa
