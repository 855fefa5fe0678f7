/- Parts of the proofs of layer 7 (walk): contracts of its functions, and the laws' walks. -/
import Derived.Test.YtfolbfacnlhlmaaProg
import Derived.WalkKit
import Derived.WalkSpells
import Derived.WalkLawsBesides
import Derived.BigQuiet
import Derived.Deep.QuietTactic
import Derived.Lib.Hide
import Derived.Deep.RegionHeld3
import Derived.Deep.DeepCutAuto
import Derived.KernelRfl
import Derived.Deep.OwnRows
import Derived.Laws.CopyOwn
import Derived.Laws.CopyRow
import Derived.StillTailTactics
import Derived.Deep.RegionLaw

namespace Go.Proofs.Ytfolbfacnlhlmaa
open Go.RowKit
set_option linter.unusedVariables false
set_option linter.unusedSimpArgs false
namespace E

/-- What an entry may be: 0, or the error. -/
def chk (fr : Int) (p wr hu he us di : Bool) : Int :=
  if fr < 0 then 3 else if 1048576 ≤ fr then 3 else
  if p = true then (if he = true then 2 else 0) else if he = true then (if hu = true then 2 else if wr = true then 2 else 0) else
  if fr = 0 then (if wr = true then 2 else if hu = true then 2 else if us = true then 2 else if di = true then 2 else 0) else 2
def b2 (b : Bool) (x : Int) : Int := if b = true then x else 0
/-- An entry's word. -/
def pk (fr : Int) (p wr hu he us di : Bool) : Int := fr * 4096 + b2 he 512 + b2 hu 128 + b2 di 64 + b2 us 32 + b2 wr 2 + b2 p 1
def pkw (fr : Int) (p wr hu he us di : Bool) : Int := if chk fr p wr hu he us di = 0 then pk fr p wr hu he us di else 0
theorem chk_range (fr : Int) (p wr hu he us di : Bool) (h : chk fr p wr hu he us di = 0) : 0 ≤ fr ∧ fr < 1048576 := by
  unfold chk at h
  by_cases h1 : fr < 0
  · simp [h1] at h
  · by_cases h2 : 1048576 ≤ fr
    · simp [h1, h2] at h
    · omega
def orw (iz : Bool) (x v : Int) : Int := if iz = true then bits BinOp.or IntKind.u64 x v else x
theorem below_drewN {B : Nat} {a w : World} (h : Below B a w) (n : Nat) : Below B a (w.drewN n) := ⟨h.os, h.tape, h.output, h.size, h.block⟩
theorem bcell {W w1 : World} (hb : Below W.heap.size W w1) : (∀ b o, b < W.heap.size → w1.cell? ⟨b, o, none⟩ = W.cell? ⟨b, o, none⟩) ∧ (∀ b o, b < W.heap.size → w1.frozen? ⟨b, o, none⟩ = W.frozen? ⟨b, o, none⟩) :=
  ⟨fun b o h => hb.cell (p := ⟨b, o, none⟩) h, fun b o h => hb.frozen (p := ⟨b, o, none⟩) h⟩

end E
end Go.Proofs.Ytfolbfacnlhlmaa
