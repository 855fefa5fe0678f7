/- Parts of the proofs of layer 19 (radix): contracts of its functions, and the laws' walks. -/
import Derived.Test.YtdnnfoojdfmajaaProg
import Derived.WalkKit
import Derived.WalkSpells
import Derived.WalkLawsBesides
import Derived.BigQuiet
import Derived.Deep.QuietTactic
import Derived.Lib.Hide
import Derived.Deep.RegionHeld3
import Derived.Deep.DeepCutAuto
import Derived.KernelRfl
import Derived.Deep.OwnRows
import Derived.Laws.CopyOwn
import Derived.Laws.CopyRow
import Derived.StillTailTactics
import Derived.Deep.RegionLaw
import Derived.Handy
import Derived.Deep.CutRange
import Derived.Deep.CutBlock
import Derived.Test.YtdnnfoojdfmajaaR4
import Derived.Test.YtdnnfoojdfmajaaX25
namespace Go.Proofs.Ytdnnfoojdfmajaa
open Go.RowKit
set_option linter.unusedVariables false
set_option linter.unusedSimpArgs false

theorem RSet_arg (page o v : Int) (r : Nat) (w : World) (h : ¬ (o = 0 ∨ o = 3 ∨ o = 6)) : Calls Try.prog 53 #[.pointer (some ⟨r, 0, none⟩), .int .i64 page, .int .i64 o, .int .i64 v] w fun e w' => e = .returned (.int .i64 2) ∧ Below w.heap.size w w' := by
  have h0 : ¬ (o = 0) := fun e => h (.inl e)
  have h1 : ¬ (o = 3) := fun e => h (.inr (.inl e))
  have h2 : ¬ (o = 6) := fun e => h (.inr (.inr e))
  have h0' : (o != 0) = true := by simp [h0]
  have h1' : (o != 3) = true := by simp [h1]
  have h2' : (o != 6) = true := by simp [h2]
  clear h h0 h1 h2
  go_enter Try.func53, Try.ntmps53
  go_wp2
  go_ret
  exact ⟨rfl, Below.refl _ _⟩
theorem RSet_rng (page o v : Int) (r : Nat) (w : World) (h : o = 0 ∨ o = 3 ∨ o = 6) (hr : ¬ ((0 ≤ page ∧ page < 4096) ∧ (-1152921504606846976 ≤ v ∧ v ≤ 1152921504606846976))) : Calls Try.prog 53 #[.pointer (some ⟨r, 0, none⟩), .int .i64 page, .int .i64 o, .int .i64 v] w fun e w' => e = .returned (.int .i64 3) ∧ Below w.heap.size w w' := by
  by_cases hp : 0 ≤ page ∧ page < 4096
  · have HJ := Lib.hid (fun W => page_any page W)
    simp only [decide_eq_true hp] at HJ
    have HK := Lib.hid (fun W => within_any v W)
    simp only [decide_eq_false (fun h => hr ⟨hp, h⟩ : ¬ (-1152921504606846976 ≤ v ∧ v ≤ 1152921504606846976))] at HK
    clear hr hp
    rcases h with rfl | rfl | rfl
    all_goals (
      go_enter Try.func53, Try.ntmps53
      go_wp2_with (first | (go_at_call 48; refine (HJ.out _).mono ?_; rintro e w1 ⟨rfl, rfl⟩) | (go_at_call 50; refine (HK.out _).mono ?_; rintro e w1 ⟨rfl, rfl⟩))
      go_ret
      exact ⟨rfl, Below.refl _ _⟩)
  · have HJ := Lib.hid (fun W => page_any page W)
    simp only [decide_eq_false hp] at HJ
    clear hr hp
    rcases h with rfl | rfl | rfl
    all_goals (
      go_enter Try.func53, Try.ntmps53
      go_wp2_with (first | (go_at_call 48; refine (HJ.out _).mono ?_; rintro e w1 ⟨rfl, rfl⟩))
      go_ret
      exact ⟨rfl, Below.refl _ _⟩)
theorem RSet_align (g k : Nat) (o v : Int) (r : Nat) (w : World) (hp : PreS g k o v) (ha : g % 8 ^ k ≠ 0) : Calls Try.prog 53 #[.pointer (some ⟨r, 0, none⟩), .int .i64 (g : Nat), .int .i64 o, .int .i64 v] w fun e w' => e = .returned (.int .i64 4) ∧ Below w.heap.size w w' := by
  obtain ⟨ho, hk, hg, hv⟩ := hp
  have HJ := Lib.hid (fun W => page_any (g : Nat) W)
  simp only [decide_eq_true (by omega : (0 : Int) ≤ ((g : Nat) : Int) ∧ ((g : Nat) : Int) < 4096)] at HJ
  have HK := Lib.hid (fun W => within_any v W)
  simp only [decide_eq_true hv] at HK
  have HSZ0 := fun W => (siz_at hk W).mono fun e w' h => (⟨h.1, h.2.symm⟩ : _ ∧ _)
  rw [← ho] at HSZ0
  have HSZ := Lib.hid HSZ0
  clear HSZ0
  have hlt : 8 ^ k ≤ 64 := by rcases k3 hk with rfl | rfl | rfl <;> decide
  have hpos : 0 < 8 ^ k := Nat.pow_pos (by decide)
  generalize 8 ^ k = sz at *
  have ho3 : o = 0 ∨ o = 3 ∨ o = 6 := by omega
  have hn0 : ¬ (((sz : Nat) : Int) = 0) := by omega
  have hrm : (((g : Nat) : Int) % ((sz : Nat) : Int) != 0) = true := bne_iff_ne.2 (show ¬ (((g : Nat) : Int) % ((sz : Nat) : Int) = 0) by omega)
  clear ha ho hv
  rcases ho3 with rfl | rfl | rfl
  all_goals (
    go_enter Try.func53, Try.ntmps53
    go_wp2_with (first | (go_at_call 48; refine (HJ.out _).mono ?_; rintro e w1 ⟨rfl, rfl⟩) | (go_at_call 50; refine (HK.out _).mono ?_; rintro e w1 ⟨rfl, rfl⟩) | (go_at_call 14; refine (HSZ.out _).mono ?_; rintro e w1 ⟨rfl, rfl⟩))
    go_ret
    exact ⟨rfl, Below.refl _ _⟩)
theorem any_cov {L : List X} (hgd : Good L) {g n : Nat} {i : Nat} (hi : i < n) {x : X} (hc : CovI x (((g : Nat) : Int) + (i : Nat))) : g < x.p + 8 ^ x.k ∧ x.p < g + n := by
  unfold CovI at hc
  omega
theorem no_cov {g n : Nat} (hn : 0 < n) {x : X} (h : ∀ i, i < n → ¬ CovI x (((g : Nat) : Int) + (i : Nat))) : ¬ (g < x.p + 8 ^ x.k ∧ x.p < g + n) := by
  rintro ⟨h1, h2⟩
  by_cases hgp : x.p ≤ g
  · exact h 0 (by omega) (by unfold CovI; have : (1 : Nat) ≤ 8 ^ x.k := Nat.pow_pos (by decide); omega)
  · exact h (x.p - g) (by omega) (by unfold CovI; have : (1 : Nat) ≤ 8 ^ x.k := Nat.pow_pos (by decide); omega)
def nw (g k : Nat) (v : Int) : X := ⟨g, k, v, false, false, false⟩
set_option maxHeartbeats 8000000 in
theorem RSet_any (g k : Nat) (o v : Int) (r : Nat) (F : List Nat) (L : List X) (w : World) (hp : PreS g k o v) (ha : g % 8 ^ k = 0) (h : Rt w r F L) (hgd : Good L) (hm : L.length ≤ 5000) :
    Calls Try.prog 53 #[.pointer (some ⟨r, 0, none⟩), .int .i64 (g : Nat), .int .i64 o, .int .i64 v] w fun e w' => ((∃ y ∈ L, g < y.p + 8 ^ y.k ∧ y.p < g + 8 ^ k) ∧ e = .returned (.int .i64 7) ∧ Below w.heap.size w w') ∨ ((∀ y ∈ L, ¬ (g < y.p + 8 ^ y.k ∧ y.p < g + 8 ^ k)) ∧ e = .returned (.int .i64 0) ∧ ∃ F', Chg F F' w w' ∧ Rt w' r F' (ins (nw g k v) L)) := by
  obtain ⟨ho, hk, hg, hv⟩ := hp
  have HJ := Lib.hid (fun W => page_any (g : Nat) W)
  simp only [decide_eq_true (by omega : (0 : Int) ≤ ((g : Nat) : Int) ∧ ((g : Nat) : Int) < 4096)] at HJ
  have HK := Lib.hid (fun W => within_any v W)
  simp only [decide_eq_true hv] at HK
  have HSZ0 := fun W => (siz_at hk W).mono fun e w' h => (⟨h.1, h.2.symm⟩ : _ ∧ _)
  rw [← ho] at HSZ0
  have HSZ := Lib.hid HSZ0
  clear HSZ0
  have hlt : 8 ^ k ≤ 64 := by rcases k3 hk with rfl | rfl | rfl <;> decide
  have hpos : 0 < 8 ^ k := Nat.pow_pos (by decide)
  have HP := Lib.hid (fun W (hW : Rt W r F L) => Rput_any (nw g k v) r F L W hW hm)
  unfold nw at HP
  simp only [← ho] at HP
  have HR := Lib.hid (And.intro h hgd)
  clear h hgd hm
  generalize 8 ^ k = sz at *
  have ho3 : o = 0 ∨ o = 3 ∨ o = 6 := by omega
  have hn0 : ¬ (((sz : Nat) : Int) = 0) := by omega
  have hrm : (((g : Nat) : Int) % ((sz : Nat) : Int) != 0) = false := by rw [show ((g : Nat) : Int) % ((sz : Nat) : Int) = 0 by omega]; rfl
  clear ha ho hv
  rcases ho3 with rfl | rfl | rfl
  all_goals (
    go_enter Try.func53, Try.ntmps53
    go_wp2_with (first | (go_at_call 48; refine (HJ.out _).mono ?_; rintro e w1 ⟨rfl, rfl⟩) | (go_at_call 50; refine (HK.out _).mono ?_; rintro e w1 ⟨rfl, rfl⟩) | (go_at_call 14; refine (HSZ.out _).mono ?_; rintro e w1 ⟨rfl, rfl⟩))
    go_loopw [9] (fun s wr => ∃ (i : Nat), i ≤ sz ∧ s = .int .i64 (i : Nat) ∧ RowKit.Hid (Below w.heap.size w wr ∧ ∀ j, j < i → ∀ x ∈ L, ¬ CovI x (((g : Nat) : Int) + (j : Nat)))) (fun s _ => sz - (intOf s).toNat)
    case atStart => exact ⟨0, Nat.zero_le _, rfl, Lib.hid ⟨Below.refl _ _, fun j hj => absurd hj (Nat.not_lt_zero _)⟩⟩
    case round =>
      obtain ⟨i, hi, rfl, HL⟩ := hrel
      by_cases hin : i < sz
      · have hinI : ((i : Nat) : Int) < ((sz : Nat) : Int) := by omega
        have q1 : wrap64 (((g : Nat) : Int) + ((i : Nat) : Int)) = ((g : Nat) : Int) + ((i : Nat) : Int) := IntWalk.wrap64_in _ (by omega)
        go_wp2_with (first | (go_at_call 48; refine (HJ.out _).mono ?_; rintro e w1 ⟨rfl, rfl⟩) | (go_at_call 50; refine (HK.out _).mono ?_; rintro e w1 ⟨rfl, rfl⟩) | (go_at_call 14; refine (HSZ.out _).mono ?_; rintro e w1 ⟨rfl, rfl⟩))
        refine (RAt_any _ r F L wr (HR.out.1.below HL.out.1) HR.out.2).mono ?_
        rintro e w2 ⟨hb2, he⟩
        have HB2 := Lib.hid (HL.out.1.trans (hb2.mono HL.out.1.size))
        clear hb2
        rcases he with ⟨hno, rfl⟩ | ⟨j, x, hj, hc, rfl⟩
        · have HN := Lib.hid hno
          clear hno
          go_wp2_with fail
          exact ⟨⟨i + 1, hin, by simp, Lib.hid ⟨HB2.out, fun j hj => by
            by_cases e : j = i
            · subst e; exact HN.out
            · exact HL.out.2 j (by omega)⟩⟩, by simp [intOf]; omega⟩
        · have HC := Lib.hid (And.intro hj hc)
          clear hj hc
          have h0 : (0 : Int) ≤ ((j : Nat) : Int) := by omega
          go_wp2_with fail
          go_ret
          exact .inl ⟨⟨x, List.mem_of_getElem? HC.out.1, any_cov HR.out.2 hin HC.out.2⟩, rfl, HB2.out⟩
      · have hin2 : i = sz := by omega
        subst hin2
        go_wp2_with (first | (go_at_call 48; refine (HJ.out _).mono ?_; rintro e w1 ⟨rfl, rfl⟩) | (go_at_call 50; refine (HK.out _).mono ?_; rintro e w1 ⟨rfl, rfl⟩) | (go_at_call 14; refine (HSZ.out _).mono ?_; rintro e w1 ⟨rfl, rfl⟩))
        refine (HP.out wr (HR.out.1.below HL.out.1)).mono ?_
        rintro e w2 ⟨rfl, F', hc2, hr2⟩
        have HC := Lib.hid (And.intro ((Chg.of_below (F := F) HL.out.1).trans hc2) hr2)
        clear hc2 hr2
        go_wp2_with fail
        go_ret
        exact .inr ⟨fun y hy => no_cov hpos fun j hj => HL.out.2 j hj y hy, rfl, F', HC.out⟩)

end Go.Proofs.Ytdnnfoojdfmajaa
