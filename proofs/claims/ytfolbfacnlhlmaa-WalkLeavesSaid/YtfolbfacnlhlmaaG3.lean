/- Parts of the proofs of layer 7 (walk): contracts of its functions, and the laws' walks. -/
import Derived.Test.YtfolbfacnlhlmaaProg
import Derived.WalkKit
import Derived.WalkSpells
import Derived.WalkLawsBesides
import Derived.BigQuiet
import Derived.Deep.QuietTactic
import Derived.Lib.Hide
import Derived.Deep.RegionHeld3
import Derived.Deep.DeepCutAuto
import Derived.KernelRfl
import Derived.Deep.OwnRows
import Derived.Laws.CopyOwn
import Derived.Laws.CopyRow
import Derived.StillTailTactics
import Derived.Deep.RegionLaw
import Derived.Test.YtfolbfacnlhlmaaG1
import Derived.Test.YtfolbfacnlhlmaaSl
namespace Go.Proofs.Ytfolbfacnlhlmaa
open Go.RowKit
set_option linter.unusedVariables false
set_option linter.unusedSimpArgs false
namespace G

theorem take_next {xs ys : List Int} {k : Nat} (h1 : k < xs.length) (h2 : k < ys.length) (h : xs.take k = ys.take k) (he : xs.getD k 0 = ys.getD k 0) : xs.take (k + 1) = ys.take (k + 1) := by
  rw [List.take_succ_eq_append_getElem h1, List.take_succ_eq_append_getElem h2, h]
  have e1 : xs.getD k 0 = xs[k] := by simp [h1]
  have e2 : ys.getD k 0 = ys[k] := by simp [h2]
  rw [← e1, ← e2, he]
theorem drewN_add (w : World) (a b : Nat) : (w.drewN a).drewN b = w.drewN (a + b) := by
  cases w; simp [World.drewN, Nat.add_assoc]
set_option maxHeartbeats 2000000 in
theorem numbers_any (xs ys : List Int) (va vb : Value) (w : World) (ha : RI w va xs) (hb : RI w vb ys) : Calls Try.prog 20 #[va, vb] w fun e w' => e = .returned (.bool (xs == ys)) ∧ ∃ k, w' = w.drewN k := by
  obtain ⟨ao, ca, rfl, hac, ham⟩ := ha.slice
  obtain ⟨bo, cb, rfl, hbc, hbm⟩ := hb.slice
  unfold maxLen at ham hbm
  by_cases hl : xs.length = ys.length
  · have HL := Lib.hid hl
    have hl2 : ((xs.length : Int) != (ys.length : Int)) = false := by rw [bne_eq_false_iff_eq, hl]
    clear hl
    rcases RV.cases ha (by omega) with ⟨h0, _⟩ | ⟨h0, b, o, ca', he, _, _, hca⟩
    · have hx : (xs == ys) = true := by
        have h1 : xs = [] := List.length_eq_zero_iff.1 h0
        have h2 : ys = [] := List.length_eq_zero_iff.1 (HL.out ▸ h0)
        rw [h1, h2]; rfl
      rw [hx]
      clear hx hl2
      have hx0 : xs.length = 0 := h0
      have hy0 : ys.length = 0 := HL.out ▸ h0
      rw [hx0, hy0]
      clear hx0 hy0 h0
      go_enter Try.func20, Try.ntmps20
      go_wp2
      refine wp_loop_rounds 1 ?_
      rw [rounds_succ]
      go_wp2
      go_ret
      exact ⟨rfl, 0, rfl⟩
    · rcases RV.cases hb (by omega) with ⟨h1, _⟩ | ⟨h1, b2, o2, cb', he2, _, _, hcb⟩
      · have := HL.out; omega
      · obtain rfl : ao = some ⟨b, o, none⟩ := by simp at he; exact he.1
        obtain rfl : bo = some ⟨b2, o2, none⟩ := by simp at he2; exact he2.1
        clear he he2 ha hb
        have HCA := Lib.hid hca
        have HCB := Lib.hid hcb
        clear hca hcb
        go_enter Try.func20, Try.ntmps20
        go_wp2
        go_loopw [5] (fun i wr => ∃ k : Nat, k ≤ xs.length ∧ i = .int .i64 k ∧ RowKit.Hid (xs.take k = ys.take k) ∧ ∃ m, wr = w.drewN m) (fun i _ => xs.length - (intOf i).toNat)
        case atStart => exact ⟨0, by omega, rfl, Lib.hid rfl, 0, rfl⟩
        case round =>
          obtain ⟨k, hk, rfl, HT, m, rfl⟩ := hrel
          by_cases hlt : k < xs.length
          · have hlt2 : k < ys.length := by have := HL.out; omega
            have c1 := HCA.out k _ (nm_get xs k hlt)
            have c2 := HCB.out k _ (nm_get ys k hlt2)
            generalize hx : xs.getD k 0 = x at c1
            generalize hy : ys.getD k 0 = y at c2
            have HX := Lib.hid hx
            have HY := Lib.hid hy
            clear hx hy
            by_cases hne : x = y
            · have k0 : (x != y) = false := by rw [bne_eq_false_iff_eq]; exact hne
              have HE := Lib.hid hne
              clear hne
              go_wp2
              go_quiet (fail)
              go_wp2
              go_roundw
              case rel => exact ⟨k + 1, by omega, by go_num, Lib.hid (take_next hlt hlt2 HT.out (by rw [HX.out, HY.out, HE.out])), _, by first | rfl | exact drewN_add _ _ _⟩
              case measure => simp [intOf]; omega
            · have k0 : (x != y) = true := by rw [bne_iff_ne]; exact hne
              have hf : (xs == ys) = false := by rw [beq_eq_false_iff_ne]; intro h; exact hne (by rw [← HX.out, ← HY.out, h])
              have HF := Lib.hid hf
              clear hne hf
              go_wp2
              go_quiet (fail)
              go_wp2
              go_ret
              exact ⟨by rw [HF.out] <;> rfl, _, by first | rfl | exact drewN_add _ _ _⟩
          · have hf : (xs == ys) = true := by
              rw [beq_iff_eq]
              have h := HT.out
              rw [List.take_of_length_le (by omega), List.take_of_length_le (by have := HL.out; omega)] at h
              exact h
            have HF := Lib.hid hf
            clear hf
            go_wp2
            go_ret
            exact ⟨by rw [HF.out] <;> rfl, _, rfl⟩
  · have hx : (xs == ys) = false := by rw [beq_eq_false_iff_ne]; intro h; exact hl (by rw [h])
    rw [hx]
    clear hx
    have hl2 : ((xs.length : Int) != (ys.length : Int)) = true := by rw [bne_iff_ne]; omega
    go_enter Try.func20, Try.ntmps20
    go_wp2
    go_ret
    exact ⟨rfl, 0, rfl⟩

theorem RI_lit (w : World) (zs : List Int) (t : TypeId) (h : zs.length ≤ 4096) : RI (w.alloc (.cells (nm zs).toArray t)) (.slice (some ⟨w.heap.size, 0, none⟩) zs.length zs.length) zs := by
  have h1 := World.ownsRow_lit (base := 0) (e := t) (size := 1) w (nm zs).toArray zs.length (Nat.zero_le _) (by unfold maxLen; omega) (by simp [nm])
  exact RV.of_own h1
/-- A page's numbers. -/
def digs (p : Int) : List Int := [p / 512, p / 64 % 8, p / 8 % 8, p % 8]
set_option maxHeartbeats 2000000 in
theorem digits_any (p : Int) (w : World) (h0 : 0 ≤ p) (h1 : p < 4096) : Calls Try.prog 32 #[.int .i64 p] w fun e w' => ∃ v, e = .returned (.tuple #[v, .int .i64 0]) ∧ RI w' v (digs p) ∧ Below w.heap.size w w' := by
  have hmk : ∀ w, (Instr.makeSlice 45 (.int .i64 4) (.int .i64 4)).run Try.prog w = .ok (.slice (some ⟨w.heap.size, 0, none⟩) 4 4) (w.alloc (.cells #[.int .i64 0, .int .i64 0, .int .i64 0, .int .i64 0] 3)) := fun _ => by kernel_rfl
  go_enter Try.func32, Try.ntmps32
  go_wp2
  refine wp_loop_rounds 5 ?_
  iterate 5 (rw [rounds_succ]; go_wp2)
  have hd : digs p = [p / 8 / 8 / 8 % 8, p / 8 / 8 % 8, p / 8 % 8, p % 8] := by
    unfold digs
    rw [show p / 8 / 8 / 8 % 8 = p / 512 from by omega, show p / 8 / 8 % 8 = p / 64 % 8 from by omega]
  go_ret2
  rw [hd]
  exact ⟨_, rfl, RI_lit w [p / 8 / 8 / 8 % 8, p / 8 / 8 % 8, p / 8 % 8, p % 8] 3 (by show (4 : Nat) ≤ 4096; omega), (Below.refl _ _).alloc (Nat.le_refl _) _⟩
theorem digits_no (p : Int) (w : World) (h : p < 0 ∨ 4096 ≤ p) : Calls Try.prog 32 #[.int .i64 p] w fun e w' => e = .returned (.tuple #[.slice none 0 0, .int .i64 3]) ∧ w = w' := by
  go_enter Try.func32, Try.ntmps32
  rcases h with h | h
  all_goals
    go_wp2
    all_goals
      go_ret2
      exact ⟨rfl, rfl⟩
end G
end Go.Proofs.Ytfolbfacnlhlmaa
