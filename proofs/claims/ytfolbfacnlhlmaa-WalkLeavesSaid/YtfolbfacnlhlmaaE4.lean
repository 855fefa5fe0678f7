/- Parts of the proofs of layer 7 (walk): contracts of its functions, and the laws' walks. -/
import Derived.Test.YtfolbfacnlhlmaaProg
import Derived.WalkKit
import Derived.WalkSpells
import Derived.WalkLawsBesides
import Derived.BigQuiet
import Derived.Deep.QuietTactic
import Derived.Lib.Hide
import Derived.Deep.RegionHeld3
import Derived.Deep.DeepCutAuto
import Derived.KernelRfl
import Derived.Deep.OwnRows
import Derived.Laws.CopyOwn
import Derived.Laws.CopyRow
import Derived.StillTailTactics
import Derived.Deep.RegionLaw
import Derived.Test.YtfolbfacnlhlmaaE3
namespace Go.Proofs.Ytfolbfacnlhlmaa
open Go.RowKit
set_option linter.unusedVariables false
set_option linter.unusedSimpArgs false
namespace E

theorem wrap_u64 (x : Int) (h0 : 0 ≤ x) (h1 : x < 18446744073709551616) : IntKind.u64.wrap x = x := by
  simp [IntKind.wrap, IntKind.bits, IntKind.signed]
  omega
theorem sum_chain (fr : Int) (p wr hu he us di : Bool) (h0 : 0 ≤ fr) (h1 : fr < 1048576) :
    IntKind.u64.wrap (IntKind.u64.wrap (IntKind.u64.wrap (IntKind.u64.wrap (IntKind.u64.wrap (IntKind.u64.wrap (fr * 4096 + b2 he 512) + b2 hu 128) + b2 di 64) + b2 us 32) + b2 wr 2) + b2 p 1) = pk fr p wr hu he us di := by
  have d : ∀ (b : Bool) (y : Int), b2 b y = 0 ∨ b2 b y = y := fun b y => by cases b <;> simp [b2]
  have d0 := d p 1
  have d1 := d wr 2
  have d5 := d us 32
  have d6 := d di 64
  have d7 := d hu 128
  have d9 := d he 512
  rw [wrap_u64 (fr * 4096 + b2 he 512) (by omega) (by omega), wrap_u64 (fr * 4096 + b2 he 512 + b2 hu 128) (by omega) (by omega), wrap_u64 (fr * 4096 + b2 he 512 + b2 hu 128 + b2 di 64) (by omega) (by omega)]
  rw [wrap_u64 (fr * 4096 + b2 he 512 + b2 hu 128 + b2 di 64 + b2 us 32) (by omega) (by omega), wrap_u64 (fr * 4096 + b2 he 512 + b2 hu 128 + b2 di 64 + b2 us 32 + b2 wr 2) (by omega) (by omega), wrap_u64 (fr * 4096 + b2 he 512 + b2 hu 128 + b2 di 64 + b2 us 32 + b2 wr 2 + b2 p 1) (by omega) (by omega)]
  unfold pk
  omega
set_option maxHeartbeats 1000000 in
theorem rpack_any (fr : Int) (p wr hu he us di : Bool) (w : World) :
    Calls Try.prog 30 #[.agg #[.int .i64 fr, .bool p, .bool wr, .bool hu, .bool he, .bool us, .bool di]] w fun e w' => e = .returned (.tuple #[.int .u64 (pkw fr p wr hu he us di), .int .i64 (chk fr p wr hu he us di)]) ∧ Below w.heap.size w w' := by
  by_cases hk : chk fr p wr hu he us di = 0
  · have hr := chk_range fr p wr hu he us di hk
    obtain ⟨h0, h1⟩ := hr
    have hp : pkw fr p wr hu he us di = pk fr p wr hu he us di := by unfold pkw; rw [if_pos hk]
    rw [hp, hk]
    clear hp
    have HK := Lib.hid hk
    clear hk
    go_enter Try.func30, Try.ntmps30
    go_wp2_with fail
    refine (rcheck_any _ _ _ _ _ _ _ _).mono ?_
    rintro e w1 ⟨rfl, hb⟩
    rw [HK.out]
    obtain ⟨hc, hf⟩ := bcell hb
    go_wp2_with fail
    go_quiet ((go_at_call 39; exact Calls.quiet_of_same ((bit_any _ _ _).mono fun _ _ h => ⟨h.1, h.2.symm⟩)))
    go_wp2
    go_ret2
    have z5 := sum_chain fr p wr hu he us di h0 h1
    exact ⟨by rw [z5]; rfl, ((Below.refl _ _).alloc (Nat.le_refl _) _).trans ((hb.mono (by simp)).trans ⟨rfl, rfl, rfl, Nat.le_refl _, fun _ _ => rfl⟩)⟩
  · have hp : pkw fr p wr hu he us di = 0 := by unfold pkw; rw [if_neg hk]
    rw [hp]
    clear hp
    have hk' : (chk fr p wr hu he us di != 0) = true := by simpa using hk
    clear hk
    go_enter Try.func30, Try.ntmps30
    go_wp2_with (go_at_call 38; refine (rcheck_any _ _ _ _ _ _ _ _).mono ?_; rintro e w1 ⟨rfl, hb⟩)
    all_goals
      go_ret2
      exact ⟨rfl, ((Below.refl _ _).alloc (Nat.le_refl _) _).trans (hb.mono (by simp))⟩
def tb (x k : Int) : Bool := x / 2 ^ k.toNat % 2 == 1
set_option maxHeartbeats 1000000 in
theorem is_any (at_ x : Int) (B : Nat) (w : World) (h0 : 0 ≤ at_) (h1 : at_ < 64) (hx0 : 0 ≤ x) (hx1 : x < 18446744073709551616)
    (hb : w.cell? ⟨B, 0, none⟩ = some (.int .u64 x)) :
    Calls Try.prog 31 #[.int .i64 at_, .pointer (some ⟨B, 0, none⟩)] w fun e w' => e = .returned (.bool (tb x at_)) ∧ w = w' := by
  go_enter Try.func31, Try.ntmps31
  go_wp2
  go_ret
  have h2 : 0 ≤ x / 2 ^ at_.toNat := Int.ediv_nonneg hx0 (Int.le_of_lt (Int.pow_pos (by omega)))
  have h3 : x / 2 ^ at_.toNat ≤ 18446744073709551615 := Int.le_trans (Int.ediv_le_self _ hx0) (by omega)
  exact ⟨by rw [and_one_u64 _ h2 h3]; rfl, rfl⟩

end E
end Go.Proofs.Ytfolbfacnlhlmaa
