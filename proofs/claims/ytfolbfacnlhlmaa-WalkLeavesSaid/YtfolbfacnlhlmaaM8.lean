/- Parts of the proofs of layer 7 (walk): contracts of its functions, and the laws' walks. -/
import Derived.Test.YtfolbfacnlhlmaaProg
import Derived.WalkKit
import Derived.WalkSpells
import Derived.WalkLawsBesides
import Derived.BigQuiet
import Derived.Deep.QuietTactic
import Derived.Lib.Hide
import Derived.Deep.RegionHeld3
import Derived.Deep.DeepCutAuto
import Derived.KernelRfl
import Derived.Deep.OwnRows
import Derived.Laws.CopyOwn
import Derived.Laws.CopyRow
import Derived.StillTailTactics
import Derived.Deep.RegionLaw
import Derived.Test.YtfolbfacnlhlmaaM6
namespace Go.Proofs.Ytfolbfacnlhlmaa
open Go.RowKit
set_option linter.unusedVariables false
set_option linter.unusedSimpArgs false

/-- The reference's memory: the struct's block g, the words' block b, N words. -/
def RMem (w : World) (g b N : Nat) (v : Nat → Int) : Prop :=
  w.heap[g]? = some (.cells #[.slice (some ⟨b, 0, none⟩) N N] 65 (0, 0)) ∧ w.rowIs b 25 N (fun i => .int .u64 (v i)) ∧ g ≠ b ∧ 64 ≤ N ∧ N ≤ 8192 ∧ N % 8 = 0
theorem RMem.of_blocks {w w' : World} {g b n : Nat} {v : Nat → Int} (h : RMem w g b n v) (hg : w'.heap[g]? = w.heap[g]?) (hb : w'.heap[b]? = w.heap[b]?) : RMem w' g b n v :=
  ⟨hg.trans h.1, h.2.1.of_block hb, h.2.2⟩
theorem RMem.drewN {w : World} {g b n : Nat} {v : Nat → Int} (h : RMem w g b n v) (k : Nat) : RMem (w.drewN k) g b n v := h
theorem RMem.lt {w : World} {g b n : Nat} {v : Nat → Int} (h : RMem w g b n v) : g < w.heap.size ∧ b < w.heap.size := ⟨lt_of_block h.1, h.2.1.lt⟩
theorem RMem.below {w w' : World} {g b n : Nat} {v : Nat → Int} (h : RMem w g b n v) (hb : Below w.heap.size w w') : RMem w' g b n v := h.of_blocks (hb.block g h.lt.1) (hb.block b h.lt.2)
theorem RMem.one {w w' : World} {g b n B : Nat} {v : Nat → Int} (h : RMem w g b n v) (ho : One B w w') (h1 : g ≠ B) (h2 : b ≠ B) : RMem w' g b n v := h.of_blocks (ho.2.2.2.2 g h1) (ho.2.2.2.2 b h2)
theorem Mem.one {w w' : World} {g b n B : Nat} {f : Nat → Int} (h : Mem w g b n f) (ho : One B w w') (h1 : g ≠ B) (h2 : b ≠ B) : Mem w' g b n f := h.of_blocks (ho.2.2.2.2 g h1) (ho.2.2.2.2 b h2)
theorem RMem.congr {w : World} {g b n : Nat} {v v' : Nat → Int} (h : RMem w g b n v) (e : ∀ i, i < n → v i = v' i) : RMem w g b n v' :=
  ⟨h.1, h.2.1.congr fun i hi => by rw [e i hi], h.2.2⟩
theorem RMem.set {w : World} {g b n : Nat} {v : Nat → Int} (h : RMem w g b n v) (k : Nat) (x : Int) : RMem (w.setCell ⟨b, k, none⟩ (.int .u64 x)) g b n (fun i => if i = k then x else v i) := by
  obtain ⟨h1, h2, h3, h4⟩ := h
  refine ⟨?_, (h2.set k _).congr fun i hi => ?_, h3, h4⟩
  · rw [← h1]; exact Below.heap_setCell _ _ _ _ h3
  · show (if i = k then Value.int .u64 x else Value.int .u64 (v i)) = Value.int .u64 (if i = k then x else v i)
    split <;> rfl
set_option maxHeartbeats 1000000 in
theorem rframes_any (g b n : Nat) (v : Nat → Int) (w : World) (h : RMem w g b n v) : Calls Try.prog 24 #[.pointer (some ⟨g, 0, none⟩)] w fun e w' => e = .returned (.int .i64 ((n / 8 : Nat) : Int)) ∧ w = w' := by
  have c0 := cell_of_one h.1
  have hn : n ≤ 8192 := h.2.2.2.2.1
  clear h
  go_enter Try.func24, Try.ntmps24
  go_wp2
  go_ret
  exact ⟨rfl, rfl⟩
set_option maxHeartbeats 1000000 in
theorem rload_any (g b n : Nat) (v : Nat → Int) (k : Nat) (w : World) (h : RMem w g b n v) (h1 : k < n) : Calls Try.prog 29 #[.pointer (some ⟨g, 0, none⟩), .int .i64 ((8 * k : Nat) : Int)] w fun e w' => e = .returned (.tuple #[.int .u64 (v k), .int .i64 0]) ∧ w = w' := by
  have c0 := cell_of_one h.1
  have c1 := h.2.1.cell (i := k) h1
  have hn : n ≤ 8192 := h.2.2.2.2.1
  clear h
  obtain ⟨a, ha⟩ : ∃ a : Nat, a = 8 * k := ⟨_, rfl⟩
  rw [← ha]
  have d0 : decide ((a : Int) < 0) = false := decide_eq_false (by omega)
  have d1 : decide ((n : Int) * 8 ≤ (a : Int)) = false := decide_eq_false (by omega)
  have d2 : ((a : Int) % 8 != 0) = false := by rw [bne_eq_false_iff_eq]; omega
  have d3 : (a : Int) / 8 = (k : Nat) := by omega
  have d4 : a / 8 = k := by omega
  go_enter Try.func29, Try.ntmps29
  go_wp2
  go_ret2
  exact ⟨rfl, rfl⟩
set_option maxHeartbeats 1000000 in
theorem rload_no (g b n : Nat) (v : Nat → Int) (a : Int) (w : World) (h : RMem w g b n v) (h0 : wrg (n * 8) a 8 ≠ 0) : Calls Try.prog 29 #[.pointer (some ⟨g, 0, none⟩), .int .i64 a] w fun e w' => e = .returned (.tuple #[.int .u64 0, .int .i64 (wrg (n * 8) a 8)]) ∧ w = w' := by
  have c0 := cell_of_one h.1
  have hn : n ≤ 8192 := h.2.2.2.2.1
  clear h
  unfold wrg at h0 ⊢
  by_cases k0 : a < 0
  · rw [if_pos k0]
    have d0 : decide (a < 0) = true := decide_eq_true k0
    go_enter Try.func29, Try.ntmps29
    go_wp2
    go_ret2
    exact ⟨rfl, rfl⟩
  · rw [if_neg k0] at h0 ⊢
    have d0 : decide (a < 0) = false := decide_eq_false k0
    by_cases k1 : ((n * 8 : Nat) : Int) ≤ a
    · rw [if_pos k1]
      have d1 : decide ((n : Int) * 8 ≤ a) = true := decide_eq_true (by omega)
      go_enter Try.func29, Try.ntmps29
      go_wp2
      go_ret2
      exact ⟨rfl, rfl⟩
    · rw [if_neg k1] at h0 ⊢
      have d1 : decide ((n : Int) * 8 ≤ a) = false := decide_eq_false (by omega)
      by_cases k2 : a % 8 = 0
      · rw [if_pos k2] at h0; exact (h0 rfl).elim
      · rw [if_neg k2]
        have d2 : (a % 8 != 0) = true := bne_iff_ne.2 k2
        go_enter Try.func29, Try.ntmps29
        go_wp2
        go_ret2
        exact ⟨rfl, rfl⟩
set_option maxHeartbeats 1000000 in
theorem rstore_any (g b n : Nat) (v : Nat → Int) (k : Nat) (x : Int) (w : World) (h : RMem w g b n v) (h1 : k < n) : Calls Try.prog 18 #[.pointer (some ⟨g, 0, none⟩), .int .i64 ((8 * k : Nat) : Int), .int .u64 x] w fun e w' => e = .returned (.int .i64 0) ∧ One b w w' ∧ RMem w' g b n (fun i => if i = k then x else v i) := by
  have c0 := cell_of_one h.1
  have c1 := h.2.1.cell (i := k) h1
  have c2 := h.2.1.frozen k
  have hn : n ≤ 8192 := h.2.2.2.2.1
  have H := Lib.hid h
  clear h
  obtain ⟨a, ha⟩ : ∃ a : Nat, a = 8 * k := ⟨_, rfl⟩
  have d3 : (a : Int) / 8 = (k : Nat) := by omega
  have d4 : a / 8 = k := by omega
  have HR := Lib.hid (rload_any g b n v k w H.out h1)
  rw [← ha] at HR ⊢
  have da : (a : Int) < (n : Int) * 8 := by omega
  clear ha
  go_enter Try.func18, Try.ntmps18
  go_wp2_with fail
  refine HR.out.mono ?_
  rintro e wz ⟨rfl, rfl⟩
  go_wp2_with fail
  go_ret
  exact ⟨rfl, One.setCell _ _ _ _, H.out.set k x⟩
set_option maxHeartbeats 1000000 in
theorem rstore_no (g b n : Nat) (v : Nat → Int) (a x : Int) (w : World) (h : RMem w g b n v) (h0 : wrg (n * 8) a 8 ≠ 0) : Calls Try.prog 18 #[.pointer (some ⟨g, 0, none⟩), .int .i64 a, .int .u64 x] w fun e w' => e = .returned (.int .i64 (wrg (n * 8) a 8)) ∧ w = w' := by
  have H := Lib.hid h
  have d0 : (wrg (n * 8) a 8 == 0) = false := by rw [beq_eq_false_iff_ne]; exact h0
  clear h
  go_enter Try.func18, Try.ntmps18
  go_wp2_with fail
  refine (rload_no g b n v a w H.out h0).mono ?_
  rintro e wz ⟨rfl, rfl⟩
  go_wp2_with fail
  go_ret
  exact ⟨rfl, rfl⟩

end Go.Proofs.Ytfolbfacnlhlmaa
