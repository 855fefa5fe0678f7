/- Parts of the proofs of layer 3 (geo): contracts of its functions, and the laws' walks. -/
import Derived.Test.YtnpcpgjaffpnjaaProg
import Derived.WalkKit
import Derived.WalkSpells
import Derived.WalkLawsBesides
import Derived.BigQuiet
import Derived.Deep.QuietTactic
import Derived.Lib.Hide
import Derived.Deep.RegionHeld3
import Derived.Deep.DeepCutAuto
import Derived.KernelRfl
import Derived.Test.YtnpcpgjaffpnjaaG6
namespace Go.Proofs.Ytnpcpgjaffpnjaa
open Go.RowKit
set_option linter.unusedVariables false
set_option linter.unusedSimpArgs false

theorem take_next2 {xs ys : List (Int × Int)} {k : Nat} (h1 : k < xs.length) (h2 : k < ys.length) (h : xs.take k = ys.take k) (he : xs.getD k (0, 0) = ys.getD k (0, 0)) : xs.take (k + 1) = ys.take (k + 1) := by
  rw [List.take_succ_eq_append_getElem h1, List.take_succ_eq_append_getElem h2, h]
  have e1 : xs.getD k (0, 0) = xs[k] := by simp [h1]
  have e2 : ys.getD k (0, 0) = ys[k] := by simp [h2]
  rw [← e1, ← e2, he]
theorem blks_get : ∀ (l : List (Int × Int)) (k : Nat), k < l.length → (blks l)[k * 2]? = some (.int .i64 (l.getD k (0, 0)).1) ∧ (blks l)[k * 2 + 1]? = some (.int .i64 (l.getD k (0, 0)).2)
  | p :: l, 0, _ => by simp [blks, blk]
  | p :: l, k + 1, h => by
    have ih := blks_get l k (by simpa using h)
    have e : blks (p :: l) = blk p ++ blks l := by simp [blks]
    rw [e, show (k + 1) * 2 = k * 2 + 2 from by omega, show k * 2 + 2 + 1 = k * 2 + 1 + 2 from by omega]
    rw [List.getElem?_append_right (by simp [blk]), List.getElem?_append_right (by simp [blk])]
    simpa [blk] using ih
set_option maxHeartbeats 2000000 in
theorem same_any (xs ys : List (Int × Int)) (va vb : Value) (w : World) (ha : RV w 2 va xs.length (blks xs)) (hb : RV w 2 vb ys.length (blks ys)) : Calls Try.prog 21 #[va, vb] w fun e w' => e = .returned (.bool (xs == ys)) ∧ ∃ k, w' = w.drewN k := by
  obtain ⟨ao, ca, rfl, hac, ham⟩ := ha.slice
  obtain ⟨bo, cb, rfl, hbc, hbm⟩ := hb.slice
  unfold maxLen at ham hbm
  by_cases hl : xs.length = ys.length
  · have HL := Lib.hid hl
    have hl2 : ((xs.length : Int) != (ys.length : Int)) = false := by rw [bne_eq_false_iff_eq, hl]
    clear hl
    rcases RV.cases ha (by omega) with ⟨h0, _⟩ | ⟨h0, b, o, ca', he, _, _, hca⟩
    · have hx : (xs == ys) = true := by
        have h1 : xs = [] := List.length_eq_zero_iff.1 h0
        have h2 : ys = [] := List.length_eq_zero_iff.1 (HL.out ▸ h0)
        rw [h1, h2]; rfl
      rw [hx]
      clear hx hl2
      have hx0 : xs.length = 0 := h0
      have hy0 : ys.length = 0 := HL.out ▸ h0
      rw [hx0, hy0]
      clear hx0 hy0 h0
      go_enter Try.func21, Try.ntmps21
      go_wp2
      refine wp_loop_rounds 1 ?_
      rw [rounds_succ]
      go_wp2
      go_ret
      exact ⟨rfl, 0, rfl⟩
    · rcases RV.cases hb (by omega) with ⟨h1, _⟩ | ⟨h1, b2, o2, cb', he2, _, _, hcb⟩
      · have := HL.out; omega
      · obtain rfl : ao = some ⟨b, o, none⟩ := by simp at he; exact he.1
        obtain rfl : bo = some ⟨b2, o2, none⟩ := by simp at he2; exact he2.1
        clear he he2 ha hb
        have HCA := Lib.hid hca
        have HCB := Lib.hid hcb
        clear hca hcb
        go_enter Try.func21, Try.ntmps21
        go_wp2
        go_loopw [5] (fun i wr => ∃ k : Nat, k ≤ xs.length ∧ i = .int .i64 k ∧ RowKit.Hid (xs.take k = ys.take k) ∧ ∃ m, wr = w.drewN m) (fun i _ => xs.length - (intOf i).toNat)
        case atStart => exact ⟨0, by omega, rfl, Lib.hid rfl, 0, rfl⟩
        case round =>
          obtain ⟨k, hk, rfl, HT, m, rfl⟩ := hrel
          by_cases hlt : k < xs.length
          · have hlt2 : k < ys.length := by have := HL.out; omega
            have c1 := HCA.out (k * 2) _ (blks_get xs k hlt).1
            have c2 := HCB.out (k * 2) _ (blks_get ys k hlt2).1
            have c3 := HCA.out (k * 2 + 1) _ (blks_get xs k hlt).2
            have c4 := HCB.out (k * 2 + 1) _ (blks_get ys k hlt2).2
            rw [← Nat.add_assoc] at c3 c4
            generalize hx : xs.getD k (0, 0) = x at c1 c3
            generalize hy : ys.getD k (0, 0) = y at c2 c4
            have HX := Lib.hid hx
            have HY := Lib.hid hy
            clear hx hy
            obtain ⟨x1, x2⟩ := x
            obtain ⟨y1, y2⟩ := y
            simp only at c1 c2 c3 c4
            by_cases hne : x1 = y1 ∧ x2 = y2
            · obtain ⟨rfl, rfl⟩ := hne
              go_wp2
              go_quiet (fail)
              go_wp2
              go_roundw
              case rel => exact ⟨k + 1, by omega, by go_num, Lib.hid (take_next2 hlt hlt2 HT.out (by rw [HX.out, HY.out])), _, by first | rfl | exact drewN_add _ _ _⟩
              case measure => simp [intOf]; omega
            · have hf : (xs == ys) = false := by rw [beq_eq_false_iff_ne]; intro h; have h2 : (x1, x2) = (y1, y2) := (by rw [← HX.out, ← HY.out, h]); exact hne ⟨congrArg Prod.fst h2, congrArg Prod.snd h2⟩
              have HF := Lib.hid hf
              clear hf
              by_cases h1 : x1 = y1
              · subst h1
                have h2 : ¬ x2 = y2 := fun h => hne ⟨rfl, h⟩
                have h3 : (x2 == y2) = false := by rw [beq_eq_false_iff_ne]; exact h2
                clear hne
                go_wp2
                go_quiet (fail)
                go_wp2
                go_ret
                exact ⟨by rw [HF.out] <;> rfl, _, by first | rfl | exact drewN_add _ _ _⟩
              · have h3 : (x1 == y1) = false := by rw [beq_eq_false_iff_ne]; exact h1
                clear hne
                go_wp2
                go_quiet (fail)
                go_wp2
                go_ret
                exact ⟨by rw [HF.out] <;> rfl, _, by first | rfl | exact drewN_add _ _ _⟩
          · have hf : (xs == ys) = true := by
              rw [beq_iff_eq]
              have h := HT.out
              rw [List.take_of_length_le (by omega), List.take_of_length_le (by have := HL.out; omega)] at h
              exact h
            have HF := Lib.hid hf
            clear hf
            go_wp2
            go_ret
            exact ⟨by rw [HF.out] <;> rfl, _, rfl⟩
  · have hx : (xs == ys) = false := by rw [beq_eq_false_iff_ne]; intro h; exact hl (by rw [h])
    rw [hx]
    clear hx
    have hl2 : ((xs.length : Int) != (ys.length : Int)) = true := by rw [bne_iff_ne]; omega
    go_enter Try.func21, Try.ntmps21
    go_wp2
    go_ret
    exact ⟨rfl, 0, rfl⟩


end Go.Proofs.Ytnpcpgjaffpnjaa
