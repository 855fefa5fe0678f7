/- Parts of the proofs of layer 18 (gap): contracts of its functions, and the laws' walks. -/
import Derived.Test.YtkaglggljomgdaaProg
import Derived.WalkKit
import Derived.WalkSpells
import Derived.WalkLawsBesides
import Derived.BigQuiet
import Derived.Deep.QuietTactic
import Derived.Lib.Hide
import Derived.Deep.RegionHeld3
import Derived.Deep.DeepCutAuto
import Derived.KernelRfl
import Derived.Deep.OwnRows
import Derived.Laws.CopyOwn
import Derived.Laws.CopyRow
import Derived.StillTailTactics
import Derived.Deep.RegionLaw
import Derived.Test.YtkaglggljomgdaaSl
import Derived.Test.YtkaglggljomgdaaSq
import Derived.Test.YtkaglggljomgdaaK1
namespace Go.Proofs.Ytkaglggljomgdaa
open Go.RowKit
set_option linter.unusedVariables false
set_option linter.unusedSimpArgs false

/-- A node's cells. -/
def nc (a b : Int) (vl vr : Option Addr) (h f l g m : Int) : Obj := .cells #[.int .i64 a, .int .i64 b, .pointer vl, .pointer vr, .int .i64 h, .int .i64 f, .int .i64 l, .int .i64 g, .int .i64 m] 60 (0, 0)
/-- A tree that lies at v; its blocks are F. -/
def Nd (w : World) : Tr → Option Addr → List Nat → Prop
  | .nil, v, F => v = none ∧ F = []
  | .nd a b l r, v, F => ∃ n vl vr Fl Fr, v = some ⟨n, 0, none⟩ ∧ w.heap[n]? = some (nc a b vl vr (ht (.nd a b l r)) (fst (.nd a b l r)) (lst (.nd a b l r)) (gp (.nd a b l r)) (cnt (.nd a b l r))) ∧
      Nd w l vl Fl ∧ Nd w r vr Fr ∧ F = n :: (Fl ++ Fr) ∧ n ∉ Fl ∧ n ∉ Fr ∧ Sep Fl Fr
theorem Nd.lt {w : World} : ∀ {t : Tr} {v : Option Addr} {F : List Nat}, Nd w t v F → ∀ b, b ∈ F → b < w.heap.size
  | .nil, _, _, h, b, hb => by obtain ⟨_, rfl⟩ := h; cases hb
  | .nd _ _ l r, _, _, h, b, hb => by
    obtain ⟨n, vl, vr, Fl, Fr, _, hn, hl, hr, rfl, _⟩ := h
    rcases List.mem_cons.1 hb with rfl | hb
    · exact lt_of_block hn
    · rcases List.mem_append.1 hb with hb | hb
      · exact Nd.lt hl b hb
      · exact Nd.lt hr b hb
theorem Nd.of_blocks {w w' : World} : ∀ {t : Tr} {v : Option Addr} {F : List Nat}, Nd w t v F → (∀ b, b ∈ F → w'.heap[b]? = w.heap[b]?) → Nd w' t v F
  | .nil, _, _, h, _ => h
  | .nd _ _ l r, _, _, h, hb => by
    obtain ⟨n, vl, vr, Fl, Fr, hv, hn, hl, hr, rfl, h1, h2, h3⟩ := h
    exact ⟨n, vl, vr, Fl, Fr, hv, (hb n (by simp)).trans hn, hl.of_blocks fun b h => hb b (by simp [h]), hr.of_blocks fun b h => hb b (by simp [h]), rfl, h1, h2, h3⟩
theorem Nd.drewN {w : World} {t : Tr} {v : Option Addr} {F : List Nat} (h : Nd w t v F) (k : Nat) : Nd (w.drewN k) t v F := h.of_blocks fun _ _ => rfl
theorem Nd.drew {w : World} {t : Tr} {v : Option Addr} {F : List Nat} (h : Nd w t v F) : Nd w.drew t v F := h.of_blocks fun _ _ => rfl
theorem Nd.chg {w w' : World} {t : Tr} {v : Option Addr} {F G G' : List Nat} (h : Nd w t v F) (hc : Chg G G' w w') (hs : Sep F G) : Nd w' t v F := h.of_blocks fun b hb => hc.block (h.lt b hb) (hs b hb)
/-- The nine cells of a node. -/
theorem nc_cells {w : World} {n : Nat} {a b : Int} {vl vr : Option Addr} {h f l g m : Int} (hn : w.heap[n]? = some (nc a b vl vr h f l g m)) :
    w.cell? ⟨n, 0, none⟩ = some (.int .i64 a) ∧ w.cell? ⟨n, 1, none⟩ = some (.int .i64 b) ∧ w.cell? ⟨n, 2, none⟩ = some (.pointer vl) ∧ w.cell? ⟨n, 3, none⟩ = some (.pointer vr) ∧ w.cell? ⟨n, 4, none⟩ = some (.int .i64 h) ∧ w.cell? ⟨n, 5, none⟩ = some (.int .i64 f) ∧ w.cell? ⟨n, 6, none⟩ = some (.int .i64 l) ∧ w.cell? ⟨n, 7, none⟩ = some (.int .i64 g) ∧ w.cell? ⟨n, 8, none⟩ = some (.int .i64 m) :=
  ⟨cell_of_row w n 0 _ 60 _ hn, cell_of_row w n 1 _ 60 _ hn, cell_of_row w n 2 _ 60 _ hn, cell_of_row w n 3 _ 60 _ hn, cell_of_row w n 4 _ 60 _ hn, cell_of_row w n 5 _ 60 _ hn, cell_of_row w n 6 _ 60 _ hn, cell_of_row w n 7 _ 60 _ hn, cell_of_row w n 8 _ 60 _ hn⟩
theorem height_any (t : Tr) (v : Option Addr) (F : List Nat) (w : World) (h : Nd w t v F) : Calls Try.prog 37 #[.pointer v] w fun e w' => e = .returned (.int .i64 (ht t)) ∧ w = w' := by
  cases t with
  | nil =>
    obtain ⟨rfl, _⟩ := h
    go_enter Try.func37, Try.ntmps37
    go_wp2
    go_ret
    exact ⟨rfl, rfl⟩
  | nd a b l r =>
    obtain ⟨n, vl, vr, Fl, Fr, rfl, hn, _⟩ := h
    obtain ⟨c0, c1, c2, c3, c4, c5, c6, c7, c8⟩ := nc_cells hn
    clear hn
    go_enter Try.func37, Try.ntmps37
    go_wp2
    go_ret
    exact ⟨rfl, rfl⟩
theorem many_any (t : Tr) (v : Option Addr) (F : List Nat) (w : World) (h : Nd w t v F) : Calls Try.prog 36 #[.pointer v] w fun e w' => e = .returned (.int .i64 (cnt t)) ∧ w = w' := by
  cases t with
  | nil =>
    obtain ⟨rfl, _⟩ := h
    go_enter Try.func36, Try.ntmps36
    go_wp2
    go_ret
    exact ⟨rfl, rfl⟩
  | nd a b l r =>
    obtain ⟨n, vl, vr, Fl, Fr, rfl, hn, _⟩ := h
    obtain ⟨c0, c1, c2, c3, c4, c5, c6, c7, c8⟩ := nc_cells hn
    clear hn
    go_enter Try.func36, Try.ntmps36
    go_wp2
    go_ret
    exact ⟨rfl, rfl⟩

end Go.Proofs.Ytkaglggljomgdaa
