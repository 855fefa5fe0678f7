/- Parts of the proofs of layer 1 (entries): contracts of its functions, and the laws' walks. -/
import Derived.Test.YtnbolfjijhbfbaaProg
import Derived.WalkKit
import Derived.WalkSpells
import Derived.WalkLawsBesides
import Derived.BigQuiet
import Derived.Deep.QuietTactic
import Derived.StillTailTactics
import Derived.Lib.Hide
import Derived.Deep.RegionHeld3
import Derived.Deep.DeepCutAuto
import Derived.KernelRfl
import Derived.Test.YtnbolfjijhbfbaaE4D
namespace Go.Proofs.Ytnbolfjijhbfbaa
open Go.RowKit
set_option linter.unusedVariables false
set_option linter.unusedSimpArgs false

theorem chk_zero {fr : Int} {wr hu us di : Bool} (h : chk fr false wr hu false us di = 0) : fr = 0 ∧ wr = false ∧ hu = false ∧ us = false ∧ di = false := by
  unfold chk at h
  by_cases h1 : fr < 0
  · simp [h1] at h
  · by_cases h2 : 1048576 ≤ fr
    · simp [h1, h2] at h
    · rw [if_neg h1, if_neg h2] at h
      by_cases h3 : fr = 0
      · subst h3
        cases wr <;> cases hu <;> cases us <;> cases di <;> simp at h ⊢
      · simp [h3] at h
/-- What comes of allowing: the error, and the entry. -/
def alc (fr : Int) (p wr hu he us di : Bool) (prot : Int) : Int :=
  if chk fr p wr hu he us di ≠ 0 then chk fr p wr hu he us di else if ¬ (prot = 0 ∨ prot = 1 ∨ prot = 3) then 2 else if (p || he) = false then 6 else if prot = 0 then (if hu = true then 5 else 0) else 0
def alk (fr : Int) (p wr hu he us di : Bool) (prot : Int) : Bool := alc fr p wr hu he us di prot == 0
def alFr (fr : Int) (p wr hu he us di : Bool) (prot : Int) : Int := if alk fr p wr hu he us di prot = true then fr else 0
def alP (fr : Int) (p wr hu he us di : Bool) (prot : Int) : Bool := alk fr p wr hu he us di prot && !(prot == 0)
def alW (fr : Int) (p wr hu he us di : Bool) (prot : Int) : Bool := alk fr p wr hu he us di prot && (prot == 3)
def alH (fr : Int) (p wr hu he us di : Bool) (prot : Int) : Bool := alk fr p wr hu he us di prot && !(prot == 0) && hu
def alHe (fr : Int) (p wr hu he us di : Bool) (prot : Int) : Bool := alk fr p wr hu he us di prot && (prot == 0)
def alU (fr : Int) (p wr hu he us di : Bool) (prot : Int) : Bool := alk fr p wr hu he us di prot && !(prot == 0) && us
def alD (fr : Int) (p wr hu he us di : Bool) (prot : Int) : Bool := alk fr p wr hu he us di prot && (prot == 3) && di
def alx (fr : Int) (p wr hu he us di : Bool) (prot : Int) : Value := .agg #[.int .i64 (alFr fr p wr hu he us di prot), .bool (alP fr p wr hu he us di prot), .bool (alW fr p wr hu he us di prot), .bool (alH fr p wr hu he us di prot), .bool (alHe fr p wr hu he us di prot), .bool (alU fr p wr hu he us di prot), .bool (alD fr p wr hu he us di prot)]
theorem alx_no (fr : Int) (p wr hu he us di : Bool) (prot c : Int) (hc : ¬ c = 0) (h : alc fr p wr hu he us di prot = c) : alx fr p wr hu he us di prot = .agg #[.int .i64 0, .bool false, .bool false, .bool false, .bool false, .bool false, .bool false] := by
  have hk : alk fr p wr hu he us di prot = false := by simp [alk, h, hc]
  simp [alx, alFr, alP, alW, alH, alHe, alU, alD, hk]
theorem alx_zero (fr : Int) (p wr hu he us di : Bool) (h : alc fr p wr hu he us di 0 = 0) : alx fr p wr hu he us di 0 = .agg #[.int .i64 fr, .bool false, .bool false, .bool false, .bool true, .bool false, .bool false] := by
  have hk : alk fr p wr hu he us di 0 = true := by simp [alk, h]
  simp [alx, alFr, alP, alW, alH, alHe, alU, alD, hk]
theorem alx_1 (fr : Int) (p wr hu he us di : Bool) (h : alc fr p wr hu he us di 1 = 0) : alx fr p wr hu he us di 1 = .agg #[.int .i64 fr, .bool true, .bool false, .bool hu, .bool false, .bool us, .bool false] := by
  have hk : alk fr p wr hu he us di 1 = true := by simp [alk, h]
  simp [alx, alFr, alP, alW, alH, alHe, alU, alD, hk]
theorem alx_3 (fr : Int) (p wr hu he us di : Bool) (h : alc fr p wr hu he us di 3 = 0) : alx fr p wr hu he us di 3 = .agg #[.int .i64 fr, .bool true, .bool true, .bool hu, .bool false, .bool us, .bool di] := by
  have hk : alk fr p wr hu he us di 3 = true := by simp [alk, h]
  simp [alx, alFr, alP, alW, alH, alHe, alU, alD, hk]
theorem al_none (prot : Int) (hp : prot = 0 ∨ prot = 1 ∨ prot = 3) : alc 0 false false false false false false prot = 6 := by
  have h : chk 0 false false false false false false = 0 := by decide
  simp [alc, h, hp]
theorem al_huge (fr : Int) (p wr he us di : Bool) (h : chk fr p wr true he us di = 0) (hq : (p || he) = true) : alc fr p wr true he us di 0 = 5 := by simp [alc, h, hq]
theorem al_zero (fr : Int) (p wr he us di : Bool) (h : chk fr p wr false he us di = 0) (hq : (p || he) = true) : alc fr p wr false he us di 0 = 0 := by simp [alc, h, hq]
theorem al_some (fr : Int) (p wr hu he us di : Bool) (prot : Int) (h : chk fr p wr hu he us di = 0) (hq : (p || he) = true) (hp : prot = 1 ∨ prot = 3) : alc fr p wr hu he us di prot = 0 := by
  rcases hp with rfl | rfl <;> simp [alc, h, hq]
theorem al_arg (fr : Int) (p wr hu he us di : Bool) (prot : Int) (h : chk fr p wr hu he us di = 0) (hp : ¬ (prot = 0 ∨ prot = 1 ∨ prot = 3)) : alc fr p wr hu he us di prot = 2 := by
  unfold alc
  rw [if_neg (by omega), if_pos hp]
theorem al_chk (fr : Int) (p wr hu he us di : Bool) (prot : Int) (h : ¬ chk fr p wr hu he us di = 0) : alc fr p wr hu he us di prot = chk fr p wr hu he us di := by
  unfold alc
  rw [if_pos h]
def prt (p wr : Bool) : Int := if p = true then (if wr = true then 3 else 1) else 0
theorem prot_any (fr : Int) (p wr hu he us di : Bool) (w : World) : Calls Try.prog 18 #[.agg #[.int .i64 fr, .bool p, .bool wr, .bool hu, .bool he, .bool us, .bool di]] w fun e w' => e = .returned (.int .i64 (prt p wr)) ∧ Below w.heap.size w w' := by
  go_enter Try.func18, Try.ntmps18
  go_wp2
  all_goals
    go_ret
    exact ⟨by first | (simp [prt, *]; done) | (simp_all [prt]; done), (Below.refl _ _).alloc (Nat.le_refl _) _⟩
theorem rprot_any (fr : Int) (p wr hu he us di : Bool) (w : World) : Calls Try.prog 19 #[.agg #[.int .i64 fr, .bool p, .bool wr, .bool hu, .bool he, .bool us, .bool di]] w fun e w' => e = .returned (.int .i64 (prt p wr)) ∧ Below w.heap.size w w' := by
  go_enter Try.func19, Try.ntmps19
  go_wp2
  all_goals
    go_ret
    exact ⟨by first | (simp [prt, *]; done) | (simp_all [prt]; done), (Below.refl _ _).alloc (Nat.le_refl _) _⟩

end Go.Proofs.Ytnbolfjijhbfbaa
