/- Parts of the proofs of layer 19 (radix): contracts of its functions, and the laws' walks. -/
import Derived.Test.YtdnnfoojdfmajaaProg
import Derived.WalkKit
import Derived.WalkSpells
import Derived.WalkLawsBesides
import Derived.BigQuiet
import Derived.Deep.QuietTactic
import Derived.Lib.Hide
import Derived.Deep.RegionHeld3
import Derived.Deep.DeepCutAuto
import Derived.KernelRfl
import Derived.Deep.OwnRows
import Derived.Laws.CopyOwn
import Derived.Laws.CopyRow
import Derived.StillTailTactics
import Derived.Deep.RegionLaw
import Derived.Handy
import Derived.Deep.CutRange
import Derived.Deep.CutBlock
import Derived.Test.YtdnnfoojdfmajaaX21
namespace Go.Proofs.Ytdnnfoojdfmajaa
open Go.RowKit
set_option linter.unusedVariables false
set_option linter.unusedSimpArgs false

set_option maxRecDepth 100000 in
theorem Set_nil (page o v : Int) (w : World) : Calls Try.prog 26 #[.pointer none, .int .i64 page, .int .i64 o, .int .i64 v] w fun e w' => e = .returned (.int .i64 1) ∧ Below w.heap.size w w' := by
  go_enter Try.func26, Try.ntmps26
  go_wp2
  go_ret
  exact ⟨rfl, Below.refl _ _⟩
theorem Set_arg (page o v : Int) (t : Nat) (w : World) (h : ¬ (o = 0 ∨ o = 3 ∨ o = 6)) : Calls Try.prog 26 #[.pointer (some ⟨t, 0, none⟩), .int .i64 page, .int .i64 o, .int .i64 v] w fun e w' => e = .returned (.int .i64 2) ∧ Below w.heap.size w w' := by
  have HI := Lib.hid (fun W => right_any o W)
  simp only [decide_eq_false h] at HI
  clear h
  go_enter Try.func26, Try.ntmps26
  go_wp2_with (go_at_call 42; refine (HI.out _).mono ?_; rintro e w1 ⟨rfl, rfl⟩)
  go_ret
  exact ⟨rfl, Below.refl _ _⟩
theorem Set_rng (page o v : Int) (t : Nat) (w : World) (h : o = 0 ∨ o = 3 ∨ o = 6) (hr : ¬ ((0 ≤ page ∧ page < 4096) ∧ (-1152921504606846976 ≤ v ∧ v ≤ 1152921504606846976))) : Calls Try.prog 26 #[.pointer (some ⟨t, 0, none⟩), .int .i64 page, .int .i64 o, .int .i64 v] w fun e w' => e = .returned (.int .i64 3) ∧ Below w.heap.size w w' := by
  have HI := Lib.hid (fun W => right_any o W)
  simp only [decide_eq_true h] at HI
  clear h
  by_cases hp : 0 ≤ page ∧ page < 4096
  · have HJ := Lib.hid (fun W => is_any page W)
    simp only [decide_eq_true hp] at HJ
    have HK := Lib.hid (fun W => small_any v W)
    simp only [decide_eq_false (fun h => hr ⟨hp, h⟩ : ¬ (-1152921504606846976 ≤ v ∧ v ≤ 1152921504606846976))] at HK
    clear hr hp
    go_enter Try.func26, Try.ntmps26
    go_wp2_with (first | (go_at_call 42; refine (HI.out _).mono ?_; rintro e w1 ⟨rfl, rfl⟩) | (go_at_call 43; refine (HJ.out _).mono ?_; rintro e w1 ⟨rfl, rfl⟩) | (go_at_call 38; refine (HK.out _).mono ?_; rintro e w1 ⟨rfl, rfl⟩))
    go_ret
    exact ⟨rfl, Below.refl _ _⟩
  · have HJ := Lib.hid (fun W => is_any page W)
    simp only [decide_eq_false hp] at HJ
    clear hr hp
    go_enter Try.func26, Try.ntmps26
    go_wp2_with (first | (go_at_call 42; refine (HI.out _).mono ?_; rintro e w1 ⟨rfl, rfl⟩) | (go_at_call 43; refine (HJ.out _).mono ?_; rintro e w1 ⟨rfl, rfl⟩))
    go_ret
    exact ⟨rfl, Below.refl _ _⟩
theorem evn_eq {g k : Nat} (hk : k ≤ 2) : G.evn (g : Nat) (3 * ((k : Nat) : Int)) = decide (g % 8 ^ k = 0) := by
  unfold G.evn
  have ho : G.ord (3 * ((k : Nat) : Int)) = true := by unfold G.ord; exact decide_eq_true (by omega)
  rw [ho, Bool.true_and]
  rw [Bool.eq_iff_iff, beq_iff_eq, decide_eq_true_iff]
  rcases k3 hk with rfl | rfl | rfl
  · rw [show G.two (3 * ((0 : Nat) : Int)) = 1 from by decide]; omega
  · rw [show G.two (3 * ((1 : Nat) : Int)) = 8 from by decide]; omega
  · rw [show G.two (3 * ((2 : Nat) : Int)) = 64 from by decide]; omega
/-- The tests ahead: right order, page and value in range. -/
def PreS (g k : Nat) (o v : Int) : Prop := o = 3 * ((k : Nat) : Int) ∧ k ≤ 2 ∧ g < 4096 ∧ -1152921504606846976 ≤ v ∧ v ≤ 1152921504606846976
theorem Set_align (g k : Nat) (o v : Int) (t : Nat) (w : World) (h : PreS g k o v) (ha : g % 8 ^ k ≠ 0) : Calls Try.prog 26 #[.pointer (some ⟨t, 0, none⟩), .int .i64 (g : Nat), .int .i64 o, .int .i64 v] w fun e w' => e = .returned (.int .i64 4) ∧ Below w.heap.size w w' := by
  obtain ⟨ho, hk, hg, hv⟩ := h
  have HI := Lib.hid (fun W => right_any o W)
  simp only [decide_eq_true (by omega : o = 0 ∨ o = 3 ∨ o = 6)] at HI
  have HJ := Lib.hid (fun W => is_any (g : Nat) W)
  simp only [decide_eq_true (by omega : (0 : Int) ≤ ((g : Nat) : Int) ∧ ((g : Nat) : Int) < 4096)] at HJ
  have HK := Lib.hid (fun W => small_any v W)
  simp only [decide_eq_true hv] at HK
  have HE := Lib.hid (fun W => G.even_any (g : Nat) o W (by omega) (by omega))
  simp only [ho, evn_eq hk, decide_eq_false ha] at HE
  rw [← ho] at HE
  clear ho hv ha
  go_enter Try.func26, Try.ntmps26
  go_wp2_with (first | (go_at_call 42; refine (HI.out _).mono ?_; rintro e w1 ⟨rfl, rfl⟩) | (go_at_call 43; refine (HJ.out _).mono ?_; rintro e w1 ⟨rfl, rfl⟩) | (go_at_call 38; refine (HK.out _).mono ?_; rintro e w1 ⟨rfl, rfl⟩) | (go_at_call 44; refine (HE.out _).mono ?_; rintro e w1 ⟨rfl, rfl⟩))
  go_ret
  exact ⟨rfl, Below.refl _ _⟩
set_option maxRecDepth 100000 in
set_option maxHeartbeats 4000000 in
theorem Set_exist (g k : Nat) (o v : Int) (t : Nat) (σ : St) (L : List X) (many nodes : Int) (F : List Nat) (w : World) (hp : PreS g k o v) (ha : g % 8 ^ k = 0) (hab : Ab σ L) (hgd : Good L) (h : Hp w t σ many nodes F)
    (hex : ∃ y ∈ L, g < y.p + 8 ^ y.k ∧ y.p < g + 8 ^ k) : Calls Try.prog 26 #[.pointer (some ⟨t, 0, none⟩), .int .i64 (g : Nat), .int .i64 o, .int .i64 v] w fun e w' => e = .returned (.int .i64 7) ∧ Below w.heap.size w w' := by
  obtain ⟨ho, hk, hg, hv⟩ := hp
  have HI := Lib.hid (fun W => right_any o W)
  simp only [decide_eq_true (by omega : o = 0 ∨ o = 3 ∨ o = 6)] at HI
  have HJ := Lib.hid (fun W => is_any (g : Nat) W)
  simp only [decide_eq_true (by omega : (0 : Int) ≤ ((g : Nat) : Int) ∧ ((g : Nat) : Int) < 4096)] at HJ
  have HK := Lib.hid (fun W => small_any v W)
  simp only [decide_eq_true hv] at HK
  have HE := Lib.hid (fun W => G.even_any (g : Nat) o W (by omega) (by omega))
  simp only [ho, evn_eq hk, decide_eq_true ha] at HE
  rw [← ho] at HE
  have HN := Lib.hid (Next_any (g : Nat) (-1) t σ L many nodes F w (by decide) hab hgd h)
  have hsh : wrap64 (2 ^ o.toNat) = ((8 ^ k : Nat) : Int) := by rw [ho]; rcases k3 hk with rfl | rfl | rfl <;> (rw [IntWalk.wrap64_in] <;> decide)
  have hlt : 8 ^ k ≤ 64 := by rcases k3 hk with rfl | rfl | rfl <;> decide
  have ho0 : 0 ≤ o := by omega
  have ho6 : o ≤ 6 := by omega
  have HX := Lib.hid (And.intro hex (And.intro hgd ho))
  obtain ⟨sz, hsz⟩ : ∃ sz, 8 ^ k = sz := ⟨_, rfl⟩
  have HSZ := Lib.hid hsz
  rw [hsz] at hsh hlt
  clear ho hv ha hex hab hgd h hsz
  go_enter Try.func26, Try.ntmps26
  go_wp2_with (first | (go_at_call 42; refine (HI.out _).mono ?_; rintro e w1 ⟨rfl, rfl⟩) | (go_at_call 43; refine (HJ.out _).mono ?_; rintro e w1 ⟨rfl, rfl⟩) | (go_at_call 38; refine (HK.out _).mono ?_; rintro e w1 ⟨rfl, rfl⟩) | (go_at_call 44; refine (HE.out _).mono ?_; rintro e w1 ⟨rfl, rfl⟩))
  refine HN.out.mono ?_
  rintro e w2 ⟨hb2, hnx⟩
  rcases hnx with ⟨x, hx, hxo, hmin, rfl⟩ | ⟨hnone, _⟩
  · have hxl : ((x.p : Nat) : Int) < ((g : Nat) : Int) + ((sz : Nat) : Int) := by
      obtain ⟨y, hy, h1, h2⟩ := HX.out.1
      have h3 := hmin y hy ⟨by omega, .inl (by decide)⟩
      have h4 := HSZ.out
      omega
    have hx4 : x.p < 4096 := (HX.out.2.1.1 x hx).lt
    have HB := Lib.hid hb2
    clear hx hxo hmin hb2
    generalize x.p = xp at *
    generalize x.k = xk at *
    have hA : Below w2.heap.size w2 (w2.alloc (.cells #[.int .i64 ((xp : Nat) : Int), .int .i64 (3 * ((xk : Nat) : Int))] 29)) := (Below.refl _ _).alloc (Nat.le_refl _) _
    have hz := heap_alloc_new w2 (.cells #[.int .i64 ((xp : Nat) : Int), .int .i64 (3 * ((xk : Nat) : Int))] 29)
    have z0 : (w2.alloc (.cells #[.int .i64 ((xp : Nat) : Int), .int .i64 (3 * ((xk : Nat) : Int))] 29)).cell? ⟨w2.heap.size, 0, none⟩ = some (.int .i64 ((xp : Nat) : Int)) := cell_of_row _ _ 0 _ 29 _ hz
    have HA := Lib.hid (HB.out.trans (hA.mono HB.out.size))
    clear hA hz
    go_upto_region 10 with fail
    generalize w2.alloc (.cells #[.int .i64 ((xp : Nat) : Int), .int .i64 (3 * ((xk : Nat) : Int))] 29) = w3 at *
    go_quiet (fail)
    go_wp2_with fail
    go_ret
    exact ⟨rfl, below_drewN HA.out nq⟩
  · obtain ⟨y, hy, h1, h2⟩ := HX.out.1
    exact absurd (⟨by omega, .inl (by decide)⟩ : OkX (g : Nat) (-1) y) (hnone y hy)

end Go.Proofs.Ytdnnfoojdfmajaa
