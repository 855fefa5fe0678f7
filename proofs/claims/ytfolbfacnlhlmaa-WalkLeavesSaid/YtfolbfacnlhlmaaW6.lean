/- Parts of the proofs of layer 7 (walk): contracts of its functions, and the laws' walks. -/
import Derived.Test.YtfolbfacnlhlmaaProg
import Derived.WalkKit
import Derived.WalkSpells
import Derived.WalkLawsBesides
import Derived.BigQuiet
import Derived.Deep.QuietTactic
import Derived.Lib.Hide
import Derived.Deep.RegionHeld3
import Derived.Deep.DeepCutAuto
import Derived.KernelRfl
import Derived.Deep.OwnRows
import Derived.Laws.CopyOwn
import Derived.Laws.CopyRow
import Derived.StillTailTactics
import Derived.Deep.RegionLaw
import Derived.Test.YtfolbfacnlhlmaaW5
namespace Go.Proofs.Ytfolbfacnlhlmaa
open Go.RowKit
set_option linter.unusedVariables false
set_option linter.unusedSimpArgs false

theorem add_none (b o j : Nat) : (⟨b, o, none⟩ : Addr).add j = ⟨b, o + j, none⟩ := by
  unfold Addr.add
  split
  · rename_i h; subst h; rfl
  · rfl
theorem news_alloc (w : World) (cs : Array Value) (e : TypeId) : ∀ j u, cs.toList[j]? = some u → (w.alloc (.cells cs e)).cell? ((⟨w.heap.size, 0, none⟩ : Addr).add j) = some u := by
  intro j u hj
  rw [add_none, Nat.zero_add]
  simp only [World.cell?, Deep.blk_alloc_new]
  simpa using hj
theorem nm_append (a b : List Int) : nm (a ++ b) = nm a ++ nm b := by simp [nm]
theorem nm_one (a : Int) : nm [a] = [.int .i64 a] := rfl
theorem nm_onecell (zs : List Int) : ∀ u ∈ nm zs, u.oneCell' = true := by
  intro u hu
  simp only [nm, List.mem_map] at hu
  obtain ⟨i, _, rfl⟩ := hu
  rfl
/-- A page's number at a level. -/
def dg (page : Int) : Nat → Int
  | 0 => page % 8
  | 1 => page / 8 % 8
  | 2 => page / 64 % 8
  | _ => page / 512
structure WR where
  x : Int
  lev : Int
  frm : Int
  at_ : Int
  err : Int
  path : List Int
def FORM : WR := ⟨0, 0, 0, 0, 5, []⟩
def bd (x : Int) (k : Nat) : Bool := (E.tb x 9 && decide (0 < k)) || (E.tb x 7 && (k == 0 || k == 3))
def od (x : Int) (k : Nat) : Int := if E.tb x 7 = true then 3 * k else 0
/-- What a walk comes to, from a level's table on. -/
def wk (n : Nat) (f : Nat → Int) (page : Int) : Nat → Nat → List Int → WR
  | 0, _, _ => FORM
  | k + 1, t, P =>
    if E.unok (wd f (64 * t + 8 * (dg page k).toNat)) = false then FORM
    else if wd f (64 * t + 8 * (dg page k).toNat) = 0 then ⟨0, 0, 0, 0, 6, P ++ [(t : Int)]⟩
    else if bd (wd f (64 * t + 8 * (dg page k).toNat)) k = true then FORM
    else if thr n (wd f (64 * t + 8 * (dg page k).toNat) / 4096) (od (wd f (64 * t + 8 * (dg page k).toNat)) k) = false then FORM
    else if E.tb (wd f (64 * t + 8 * (dg page k).toNat)) 7 = true ∨ k = 0 then ⟨wd f (64 * t + 8 * (dg page k).toNat), k, wd f (64 * t + 8 * (dg page k).toNat) / 4096 + page - G.dwn page (od (wd f (64 * t + 8 * (dg page k).toNat)) k), dg page k, 0, P ++ [(t : Int)]⟩
    else wk n f page k (wd f (64 * t + 8 * (dg page k).toNat) / 4096).toNat (P ++ [(t : Int)])
/-- One step. -/
def st (n : Nat) (page : Int) (x a : Int) (k t : Nat) (P : List Int) (rest : WR) : WR :=
  if E.unok x = false then FORM
  else if x = 0 then ⟨0, 0, 0, 0, 6, P ++ [(t : Int)]⟩
  else if bd x k = true then FORM
  else if thr n (x / 4096) (od x k) = false then FORM
  else if E.tb x 7 = true ∨ k = 0 then ⟨x, k, x / 4096 + page - G.dwn page (od x k), a, 0, P ++ [(t : Int)]⟩
  else rest
theorem wk_st (n : Nat) (f : Nat → Int) (page : Int) (k t : Nat) (P : List Int) (x a : Int) (ha : a = dg page k) (hx : x = wd f (64 * t + 8 * a.toNat)) : wk n f page (k + 1) t P = st n page x a k t P (wk n f page k (x / 4096).toNat (P ++ [(t : Int)])) := by
  subst ha hx; rfl
def LV (x lev frm : Int) : Value := .agg #[.int .i64 (E.une0 x), .bool (E.unb x 0), .bool (E.unb x 1), .bool (E.unb x 7), .bool (E.unb x 9), .bool (E.unb x 5), .bool (E.unb x 6), .int .i64 lev, .int .i64 frm]
theorem ok0 : E.unok 0 = true := by decide
theorem LV0 : LV 0 0 0 = .agg #[.int .i64 0, .bool false, .bool false, .bool false, .bool false, .bool false, .bool false, .int .i64 0, .int .i64 0] := by rfl
theorem ent0 : E.unEnt 0 = .agg #[.int .i64 0, .bool false, .bool false, .bool false, .bool false, .bool false, .bool false] := by rfl
theorem une0 : E.une 0 = 0 := by rfl
theorem LV_yes {x lev frm : Int} (h : E.unok x = true) : LV x lev frm = .agg #[.int .i64 (x / 4096), .bool (E.tb x 0), .bool (E.tb x 1), .bool (E.tb x 7), .bool (E.tb x 9), .bool (E.tb x 5), .bool (E.tb x 6), .int .i64 lev, .int .i64 frm] := by simp [LV, E.une0, E.unb, h]
/-- An entry that is none of the zero one's. -/
theorem ok_nz {x : Int} (h : E.unok x = true) (h0 : x ≠ 0) (hz : x / 4096 = 0 ∧ E.tb x 0 = false ∧ E.tb x 1 = false ∧ E.tb x 7 = false ∧ E.tb x 9 = false ∧ E.tb x 5 = false ∧ E.tb x 6 = false) : False := by
  obtain ⟨z0, z1, z2, z3, z4, z5, z6⟩ := hz
  simp only [E.unok, Bool.and_eq_true, beq_iff_eq] at h
  have h2 := h.2
  unfold E.unw at h2
  rw [z0, z1, z2, z3, z4, z5, z6] at h2
  exact h0 (h2.symm.trans (by decide))
theorem ok_fr {x : Int} (h : E.unok x = true) : 0 ≤ x / 4096 ∧ x / 4096 < 1048576 := by
  simp only [E.unok, Bool.and_eq_true, beq_iff_eq] at h
  exact E.chk_range _ _ _ _ _ _ _ h.1.2
theorem thr_lt {n : Nat} {fr o : Int} (h : thr n fr o = true) (ho : o = 0 ∨ o = 3 ∨ o = 6) : fr < (n : Int) / 64 := by
  simp only [thr, Bool.and_eq_true, decide_eq_true_eq] at h
  rcases ho with rfl | rfl | rfl
  · have := h.2; rw [show (2 : Int) ^ (0 : Int).toNat = 1 from rfl] at this; omega
  · have := h.2; rw [show (2 : Int) ^ (3 : Int).toNat = 8 from rfl] at this; omega
  · have := h.2; rw [show (2 : Int) ^ (6 : Int).toNat = 64 from rfl] at this; omega

end Go.Proofs.Ytfolbfacnlhlmaa
