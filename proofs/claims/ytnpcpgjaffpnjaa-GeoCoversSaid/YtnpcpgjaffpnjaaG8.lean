/- Parts of the proofs of layer 3 (geo): contracts of its functions, and the laws' walks. -/
import Derived.Test.YtnpcpgjaffpnjaaProg
import Derived.WalkKit
import Derived.WalkSpells
import Derived.WalkLawsBesides
import Derived.BigQuiet
import Derived.Deep.QuietTactic
import Derived.Lib.Hide
import Derived.Deep.RegionHeld3
import Derived.Deep.DeepCutAuto
import Derived.KernelRfl
import Derived.Test.YtnpcpgjaffpnjaaG7
namespace Go.Proofs.Ytnpcpgjaffpnjaa
open Go.RowKit
set_option linter.unusedVariables false
set_option linter.unusedSimpArgs false

theorem below_drewN {B : Nat} {a w : World} (h : Below B a w) (n : Nat) : Below B a (w.drewN n) := ⟨h.os, h.tape, h.output, h.size, h.block⟩
theorem lit4 (W : World) : RI (W.alloc (.cells #[.int .i64 0, .int .i64 1, .int .i64 2, .int .i64 3] 3)) (.slice (some ⟨W.heap.size, 0, none⟩) 4 4) [0, 1, 2, 3] := RI_lit W [0, 1, 2, 3] 3 (by decide)
set_option maxHeartbeats 400000 in
theorem awake_any (w : World) : Calls Try.prog 13 #[] w fun e w' => e = .returned (.bool true) ∧ Below w.heap.size w w' := by
  have a1 : pgv [0, 1, 2, 3] = 83 := by decide
  have a2 : pge [0, 1, 2, 3] = 0 := by decide
  have a3 : (digs 83 == [0, 1, 2, 3]) = true := by decide
  have a4 : dwn 83 3 = 80 := by decide
  have a5 : (cuts 3 4096 6 20).length = 6 := by decide +kernel
  go_enter Try.func13, Try.ntmps13
  go_wp2_with fail
  refine (digits_any 83 _ (by omega) (by omega)).mono ?_
  rintro e w1 ⟨v, rfl, hv, hb1⟩
  go_wp2_with fail
  refine (page_any [0, 1, 2, 3] _ _ (lit4 _) (by simp)).mono ?_
  rintro e w2 ⟨rfl, rfl⟩
  rw [a1, a2]
  go_wp2_with fail
  have q := lit4 (w1.alloc (.cells #[.int .i64 0, .int .i64 1, .int .i64 2, .int .i64 3] 3))
  rw [World.size_alloc] at q
  refine (numbers_any (digs 83) [0, 1, 2, 3] _ _ _ ((RV.alloc hv _).alloc _) q).mono ?_
  rintro e w3 ⟨rfl, k3, rfl⟩
  rw [a3]
  go_wp2_with fail
  refine (down_any 83 3 _ (by omega) (by omega)).mono ?_
  rintro e w4 ⟨rfl, rfl⟩
  rw [a4]
  go_wp2_with fail
  refine (cut_any 6 20 3 _ (by decide) (by decide) (by omega) (by omega) (by omega)).mono ?_
  rintro e w5 ⟨u, rfl, hu, hb5⟩
  obtain ⟨ao, cap, rfl, _, _⟩ := hu.slice
  clear hu
  rw [a5]
  go_wp2
  go_ret
  exact ⟨rfl, bnext (below_drewN ((hb1.alloc hb1.size _).alloc (by simp; have := hb1.size; omega) _) k3) hb5⟩

theorem in64 {x : Int} (h : (Lit.int .i64 x).wf = true) : -9223372036854775808 ≤ x ∧ x < 9223372036854775808 := by
  have hmin : IntKind.i64.min = -9223372036854775808 := rfl
  have hmax : IntKind.i64.max = 9223372036854775807 := rfl
  simp only [Lit.wf, Bool.and_eq_true, decide_eq_true_eq] at h
  omega
set_option maxHeartbeats 1000000 in
theorem even_law (at_ n o : Int) (w : World) (h0 : -9223372036854775808 ≤ at_ ∧ at_ < 9223372036854775808) (h1 : -9223372036854775808 ≤ n ∧ n < 9223372036854775808) : Calls Try.prog 5 #[.int .i64 at_, .int .i64 n, .int .i64 o] w fun e w' => e = .returned (.bool true) ∧ Below w.heap.size w w' := by
  obtain ⟨p0, p1⟩ := h0
  obtain ⟨q0, q1⟩ := h1
  go_enter Try.func5, Try.ntmps5
  go_wp2_with (first
    | (go_at_call 13; refine (awake_any _).mono ?_; rintro e w1 ⟨rfl, hb1⟩)
    | (go_at_call 15; refine (down_any _ _ _ p0 p1).mono ?_; rintro e w2 ⟨rfl, rfl⟩)
    | (go_at_call 16; refine (rdown_any _ _ _ p0 p1).mono ?_; rintro e w2 ⟨rfl, rfl⟩)
    | (go_at_call 17; refine (even_any _ _ _ p0 p1).mono ?_; rintro e w2 ⟨rfl, rfl⟩)
    | (go_at_call 18; refine (reven_any _ _ _ p0 p1).mono ?_; rintro e w2 ⟨rfl, rfl⟩)
    | (go_at_call 19; refine (right_any _ _ _ _ p0 p1 q0 q1).mono ?_; rintro e w2 ⟨rfl, rfl⟩)
    | (go_at_call 20; refine (rright_any _ _ _ _ p0 p1 q0 q1).mono ?_; rintro e w2 ⟨rfl, rfl⟩))
  go_ret
  exact ⟨rfl, hb1⟩
set_option maxHeartbeats 1000000 in
theorem digits_law (p : Int) (zs : List Int) (v : Value) (w : World) (h : RI w v zs) (hz : ∀ z ∈ zs, -9223372036854775808 ≤ z ∧ z < 9223372036854775808) : Calls Try.prog 3 #[.int .i64 p, v] w fun e w' => e = .returned (.bool true) ∧ Below w.heap.size w w' := by
  have hself : ∀ l : List Int, (l == l) = true := fun l => by simp
  by_cases hp : 0 ≤ p ∧ p < 4096
  · obtain ⟨p0, p1⟩ := hp
    have HS := Lib.hid hself
    clear hself
    go_enter Try.func3, Try.ntmps3
    go_wp2_with fail
    refine (digits_any p _ p0 p1).mono ?_
    rintro e w1 ⟨v1, rfl, hv1, hb1⟩
    go_wp2_with fail
    refine (rdigits_any p _ p0 p1).mono ?_
    rintro e w2 ⟨v2, rfl, hv2, hb2⟩
    go_wp2_with fail
    refine (page_any zs _ _ ((h.below hb1).below hb2) hz).mono ?_
    rintro e w3 ⟨rfl, rfl⟩
    go_wp2_with fail
    refine (rpage_any zs _ _ ((h.below hb1).below hb2) hz).mono ?_
    rintro e w4 ⟨rfl, k4, rfl⟩
    go_wp2_with fail
    refine (awake_any _).mono ?_
    rintro e w5 ⟨rfl, hb5⟩
    go_wp2_with fail
    refine (numbers_any (digs p) (digs p) _ _ _ ((RV.drewN (RV.below hv1 hb2) k4).below hb5) ((RV.drewN hv2 k4).below hb5)).mono ?_
    rintro e w6 ⟨rfl, k6, rfl⟩
    rw [HS.out]
    go_wp2
    go_ret
    exact ⟨rfl, below_drewN (bnext (below_drewN (bnext hb1 hb2) k4) hb5) k6⟩
  · have hp2 : p < 0 ∨ 4096 ≤ p := by omega
    have HS := Lib.hid hself
    have HP := Lib.hid hp2
    clear hself hp hp2
    go_enter Try.func3, Try.ntmps3
    go_wp2_with fail
    refine (digits_no p _ HP.out).mono ?_
    rintro e w1 ⟨rfl, rfl⟩
    go_wp2_with fail
    refine (rdigits_no p _ HP.out).mono ?_
    rintro e w1 ⟨rfl, rfl⟩
    go_wp2_with fail
    refine (page_any zs _ _ h hz).mono ?_
    rintro e w3 ⟨rfl, rfl⟩
    go_wp2_with fail
    refine (rpage_any zs _ _ h hz).mono ?_
    rintro e w4 ⟨rfl, k4, rfl⟩
    go_wp2_with fail
    refine (awake_any _).mono ?_
    rintro e w5 ⟨rfl, hb5⟩
    go_wp2_with fail
    refine (numbers_any [] [] _ _ _ (RV.nil _ _) (RV.nil _ _)).mono ?_
    rintro e w6 ⟨rfl, k6, rfl⟩
    rw [HS.out]
    go_wp2
    go_ret
    exact ⟨rfl, below_drewN (bnext (below_drewN (Below.refl _ _) k4) hb5) k6⟩

end Go.Proofs.Ytnpcpgjaffpnjaa
