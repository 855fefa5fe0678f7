/- Parts of the proofs of layer 2 (ram): contracts of its functions, and the laws' walks. -/
import Derived.Test.YtmjkcmpanoepgaaProg
import Derived.WalkKit
import Derived.WalkSpells
import Derived.WalkLawsBesides
import Derived.BigQuiet
import Derived.Deep.QuietTactic
import Derived.Lib.Hide
import Derived.Deep.RegionHeld3
import Derived.Deep.DeepCutAuto
import Derived.KernelRfl
import Derived.Deep.OwnRows
import Derived.Laws.CopyOwn
import Derived.Laws.CopyRow
import Derived.StillTailTactics
import Derived.Test.YtmjkcmpanoepgaaM6
namespace Go.Proofs.Ytmjkcmpanoepgaa
open Go.RowKit
set_option linter.unusedVariables false
set_option linter.unusedSimpArgs false

set_option maxHeartbeats 2000000 in
theorem none_law (c0 c1 c2 c3 c4 : Int) (w : World) : Calls Try.prog 8 #[.agg #[.int .i64 c0, .int .i64 c1, .int .i64 c2, .int .i64 c3, .int .u64 c4]] w fun e w' => e = .returned (.bool true) ∧ Below w.heap.size w w' := by
  go_enter Try.func8, Try.ntmps8
  go_wp2_with fail
  refine (load_nil c1 _).mono ?_
  rintro e _ ⟨rfl, rfl⟩
  go_wp2_with fail
  refine (byte_nil c1 _).mono ?_
  rintro e _ ⟨rfl, rfl⟩
  go_wp2_with fail
  refine (awake_any _).mono ?_
  rintro e w2 ⟨rfl, hb2⟩
  have hbx : Below w.heap.size w (w.alloc (.cells #[.int .i64 c0, .int .i64 c1, .int .i64 c2, .int .i64 c3, .int .u64 c4] 44)) := (Below.refl _ w).alloc (Nat.le_refl _) _
  have hc : ∀ i v, #[Value.int .i64 c0, .int .i64 c1, .int .i64 c2, .int .i64 c3, .int .u64 c4][i]? = some v → w2.cell? ⟨w.heap.size, i, none⟩ = some v := by
    intro i v h
    have := hb2.cell (p := ⟨w.heap.size, i, none⟩) (by rw [World.size_alloc]; exact Nat.lt_succ_self _)
    rw [this]
    simp only [World.cell?, Deep.blk_alloc_new]
    exact h
  have e1 := hc 1 _ rfl
  have e2 := hc 2 _ rfl
  have e3 := hc 3 _ rfl
  have e4 := hc 4 _ rfl
  have hbb := Lib.hid (bnext hbx hb2)
  clear hc hb2 hbx
  go_wp2_with fail
  refine (store_nil c1 c4 _).mono ?_
  rintro e _ ⟨rfl, rfl⟩
  go_wp2_with fail
  refine (zero_nil c1 c3 _).mono ?_
  rintro e _ ⟨rfl, rfl⟩
  go_wp2_with fail
  refine (copy_nil c1 c2 c3 _).mono ?_
  rintro e _ ⟨rfl, rfl⟩
  go_wp2_with fail
  refine (frames_nil _).mono ?_
  rintro e _ ⟨rfl, rfl⟩
  go_wp2_with fail
  go_ret
  exact ⟨rfl, hbb.out⟩
set_option maxHeartbeats 2000000 in
theorem ends_law (x at_ : Int) (w : World) (hx : 0 ≤ x ∧ x < 18446744073709551616) (ha : 0 ≤ at_ ∧ at_ ≤ 255) : Calls Try.prog 3 #[.int .u64 x, .int .u8 at_] w fun e w' => e = .returned (.bool true) ∧ Below w.heap.size w w' := by
  obtain ⟨t, rfl⟩ := Int.eq_ofNat_of_zero_le ha.1
  obtain ⟨a0, a1⟩ := ha
  have HX := Lib.hid hx
  clear hx
  go_enter Try.func3, Try.ntmps3
  go_wp2_with fail
  refine (new_any 8 w (by omega) (by omega)).mono ?_
  rintro e w1 ⟨rfl, hb1, hm1, hs1⟩
  have HB := Lib.hid hb1
  have HM := Lib.hid hm1
  clear hb1 hm1
  go_wp2_with fail
  refine (awake_any _).mono ?_
  rintro e w2 ⟨rfl, hb2⟩
  have HB2 := Lib.hid (HB.out.trans (hb2.mono (by omega)))
  have HM2 := Lib.hid (HM.out.below hb2)
  clear HB HM hb2
  go_wp2_with fail
  obtain ⟨k, hk⟩ : ∃ k : Nat, (t : Int) % 64 * 8 = k := ⟨t % 64 * 8, by omega⟩
  have hk8 : k % 8 = 0 := by omega
  have hkn : k + 8 ≤ 512 := by omega
  rw [hk]
  refine (store_any (w.heap.size + 1) w.heap.size (8 * 64) _ k x w2 HM2.out hk8 (by omega) HX.out).mono ?_
  rintro e w3 ⟨rfl, ho3, hm3⟩
  have HB3 := Lib.hid (HB2.out.trans (ho3.below (Nat.le_refl _)))
  have HM3 := Lib.hid hm3
  clear ho3 hm3 HB2 HM2
  go_wp2_with fail
  go_loopw [8] (fun s wr => ∃ j : Nat, j ≤ 8 ∧ s = .int .i64 j ∧ wr = w3) (fun s _ => 8 - (intOf s).toNat)
  case atStart => exact ⟨0, by omega, rfl, rfl⟩
  case round =>
    obtain ⟨j, hj, rfl, rfl⟩ := hrel
    by_cases hlt : j < 8
    · have s1 : IntKind.i64.wrap (8 * (j : Int)) = ((8 * j : Nat) : Int) := by rw [IntKind.wrap_i64]; omega
      have s7 : IntKind.u8.wrap (x / 2 ^ (8 * (j : Int)).toNat) = byt x j := by
        rw [show (8 * (j : Int)).toNat = 8 * j from by omega]
        rfl
      have s8 : lay (fun _ => 0) k 8 x ((k : Int) + j).toNat = byt x j := by
        rw [show ((k : Int) + j).toNat = k + j from by omega]
        unfold lay
        rw [if_pos (by omega), show k + j - k = j from by omega]
      have s9 : (byt x j != x / 2 ^ (8 * j) % 256) = false := bne_self_eq_false _
      have S8 := Lib.hid s8
      clear s8
      go_wp2_with fail
      refine (byte_any (w.heap.size + 1) w.heap.size (8 * 64) _ ((k : Int) + j) wr HM3.out (by omega) (by omega)).mono ?_
      rintro e wz ⟨rfl, rfl⟩
      rw [S8.out]
      go_wp2_with fail
      exact ⟨⟨j + 1, by omega, rfl, trivial⟩, by simp [intOf]; omega⟩
    · go_wp2_with fail
      go_ret
      exact ⟨rfl, HB3.out⟩
set_option maxHeartbeats 2000000 in
theorem words_law (a b v x : Int) (w : World) (ha : 0 ≤ a ∧ a ≤ 65535) (hb : 0 ≤ b ∧ b ≤ 65535) (hv : 0 ≤ v ∧ v < 18446744073709551616) (hx : 0 ≤ x ∧ x < 18446744073709551616) : Calls Try.prog 4 #[.agg #[.int .u16 a, .int .u16 b, .int .u64 v, .int .u64 x]] w fun e w' => e = .returned (.bool true) ∧ Below w.heap.size w w' := by
  obtain ⟨A, rfl⟩ := Int.eq_ofNat_of_zero_le ha.1
  obtain ⟨B, rfl⟩ := Int.eq_ofNat_of_zero_le hb.1
  obtain ⟨a0, a1⟩ := ha
  obtain ⟨b0, b1⟩ := hb
  have HX := Lib.hid hx
  have HV := Lib.hid hv
  clear hx hv
  go_enter Try.func4, Try.ntmps4
  go_wp2_with fail
  go_quiet (fail)
  go_wp2_with fail
  have hbx : Below w.heap.size w ((w.alloc (.cells #[.int .u16 A, .int .u16 B, .int .u64 v, .int .u64 x] 34)).drewN nq) := below_drewN ((Below.refl _ w).alloc (Nat.le_refl _) _) nq
  generalize (w.alloc (.cells #[.int .u16 (A : Int), .int .u16 (B : Int), .int .u64 v, .int .u64 x] 34)).drewN nq = W0 at hbx ⊢
  refine (new_any 1024 W0 (by omega) (by omega)).mono ?_
  rintro e w1 ⟨rfl, hb1, hm1, hs1⟩
  have HB := Lib.hid (bnext hbx hb1)
  have hsz := hbx.size
  have HM := Lib.hid hm1
  clear hb1 hm1 hbx
  generalize W0.heap.size = S at *
  go_wp2_with fail
  refine (awake_any _).mono ?_
  rintro e w2 ⟨rfl, hb2⟩
  have HB2 := Lib.hid (bnext HB.out hb2)
  have HM2 := Lib.hid (HM.out.below hb2)
  clear HB HM hb2
  go_wp2_with fail
  obtain ⟨X, hX⟩ : ∃ k : Nat, (A : Int) % 8192 * 8 = k := ⟨A % 8192 * 8, by omega⟩
  obtain ⟨Y, hY⟩ : ∃ k : Nat, (B : Int) % 8192 * 8 = k := ⟨B % 8192 * 8, by omega⟩
  have X8 : X % 8 = 0 := by omega
  have Y8 : Y % 8 = 0 := by omega
  have XN : X < 1024 * 64 := by omega
  have YN : Y < 1024 * 64 := by omega
  rw [hX, hY]
  refine (store_any (S + 1) S (1024 * 64) _ X v w2 HM2.out X8 XN HV.out).mono ?_
  rintro e w3 ⟨rfl, ho3, hm3⟩
  have HB3 := Lib.hid (HB2.out.trans (ho3.below (show w.heap.size ≤ S from hsz)))
  have HM3 := Lib.hid hm3
  clear ho3 hm3
  go_wp2_with fail
  refine (store_any (S + 1) S (1024 * 64) _ Y x w3 HM3.out Y8 YN HX.out).mono ?_
  rintro e w4 ⟨rfl, ho4, hm4⟩
  have HB4 := Lib.hid (HB3.out.trans (ho4.below (show w.heap.size ≤ S from hsz)))
  have HM4 := Lib.hid hm4
  clear ho4 hm4
  have q1 := wd_lay (lay (fun _ => 0) X 8 v) Y x HX.out
  have q2 : X = Y ∨ wd (lay (lay (fun _ => 0) X 8 v) Y 8 x) X = v := by
    by_cases h : X = Y
    · exact Or.inl h
    · right
      rw [wd_other _ _ _ _ (by omega)]
      exact wd_lay _ _ _ HV.out
  have Q1 := Lib.hid q1
  have Q2 := Lib.hid q2
  clear q1 q2
  go_wp2_with fail
  refine (load_any (S + 1) S (1024 * 64) _ X w4 HM4.out X8 XN).mono ?_
  rintro e wz ⟨rfl, rfl⟩
  generalize hP : wd (lay (lay (fun _ => 0) X 8 v) Y 8 x) X = p at *
  go_wp2_with fail
  refine (load_any (S + 1) S (1024 * 64) _ Y w4 HM4.out Y8 YN).mono ?_
  rintro e wz ⟨rfl, rfl⟩
  rw [Q1.out]
  have z1 : (x == x) = true := beq_self_eq_true _
  by_cases hXY : X = Y
  · have z2 : ((X : Int) == (Y : Int)) = true := by rw [hXY]; exact beq_self_eq_true _
    go_wp2_with fail
    go_ret
    exact ⟨rfl, HB4.out⟩
  · have z2 : ((X : Int) == (Y : Int)) = false := by rw [beq_eq_false_iff_ne]; omega
    have hpv := Q2.out.resolve_left hXY
    subst hpv
    have z3 : (p == p) = true := beq_self_eq_true _
    go_wp2_with fail
    go_ret
    exact ⟨rfl, HB4.out⟩

end Go.Proofs.Ytmjkcmpanoepgaa
