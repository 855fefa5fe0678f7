/- Parts of the proofs of layer 18 (gap): contracts of its functions, and the laws' walks. -/
import Derived.Test.YtkaglggljomgdaaProg
import Derived.WalkKit
import Derived.WalkSpells
import Derived.WalkLawsBesides
import Derived.BigQuiet
import Derived.Deep.QuietTactic
import Derived.Lib.Hide
import Derived.Deep.RegionHeld3
import Derived.Deep.DeepCutAuto
import Derived.KernelRfl
import Derived.Deep.OwnRows
import Derived.Laws.CopyOwn
import Derived.Laws.CopyRow
import Derived.StillTailTactics
import Derived.Deep.RegionLaw
import Derived.Test.YtkaglggljomgdaaH13
import Derived.OwnWalk
namespace Go.Proofs.Ytkaglggljomgdaa
open Go.RowKit
set_option linter.unusedVariables false
set_option linter.unusedSimpArgs false

/-- Room's two answers. -/
def roomV (low n o : Int) (L : List (Int × Int)) : Int × Int :=
  if n < 1 ∨ o < 0 ∨ 8 < o then (0, 2) else if 4096 ≤ low then (0, 13) else
    if scanF (max low 1) n (G.two o) L 1 = 0 then (0, 13) else (scanF (max low 1) n (G.two o) L 1, 0)
theorem Room_nil (low n o : Int) (w : World) : Calls Try.prog 12 #[.pointer none, .int .i64 low, .int .i64 n, .int .i64 o] w fun e w' => e = .returned (.tuple #[.int .i64 0, .int .i64 1]) ∧ Below w.heap.size w w' := by
  obtain ⟨w1, hw1⟩ : ∃ w1, w1 = ((w.alloc (.cells #[.int .i64 low] 3)).alloc (.cells #[.int .i64 n] 3)).alloc (.cells #[.int .i64 o] 3) := ⟨_, rfl⟩
  have HB : RowKit.Hid (Below w.heap.size w w1) := Lib.hid (by rw [hw1]; exact (((Below.refl _ w).alloc (Nat.le_refl _) _).alloc (by simp) _).alloc (by simp; omega) _)
  go_enter Try.func12, Try.ntmps12
  go_upto_region 1 with fail
  rw [← hw1]
  clear hw1
  go_wp2_with fail
  refine bodyPost_ret (v := .tuple #[.int .i64 0, .int .i64 1]) (by simp [results, Try.results12, go_sem]) rfl ⟨rfl, HB.out⟩
theorem scanF_room {low n k : Int} {L : List (Int × Int)} (hk : Size k) (hn : 1 ≤ n) (h : Rg 1 L 4096) : 0 ≤ (scan low n k L 1).1 ∧ 0 ≤ fitI low n k (scan low n k L 1).2 4096 := by
  have h2 : ∀ (L : List (Int × Int)) f, 1 ≤ f → Rg f L 4096 → 0 ≤ (scan low n k L f).1 := by
    intro L
    induction L with
    | nil => intro f hf h; exact Int.le_refl _
    | cons d L ih =>
      intro f hf h
      obtain ⟨h1, h2, h3⟩ := h
      rw [scan]
      split
      · simp only; omega
      · exact ih _ (by omega) h3
  refine ⟨h2 L 1 (by omega) h, ?_⟩
  rcases fitI_spec low n k (scan low n k L 1).2 4096 hk (scan_bound low n k L 1 4096 h).1 hn with h | h <;> omega
set_option maxHeartbeats 2000000 in
theorem Room_any (low n o : Int) (g : Nat) (F : List Nat) (L : List (Int × Int)) (w : World) (h : Gt w g F L) :
    Calls Try.prog 12 #[.pointer (some ⟨g, 0, none⟩), .int .i64 low, .int .i64 n, .int .i64 o] w fun e w' => e = .returned (.tuple #[.int .i64 (roomV low n o L).1, .int .i64 (roomV low n o L).2]) ∧ Below w.heap.size w w' := by
  obtain ⟨w1, hw1⟩ : ∃ w1, w1 = ((w.alloc (.cells #[.int .i64 low] 3)).alloc (.cells #[.int .i64 n] 3)).alloc (.cells #[.int .i64 o] 3) := ⟨_, rfl⟩
  have hb : Below w.heap.size w w1 := by rw [hw1]; exact (((Below.refl _ w).alloc (Nat.le_refl _) _).alloc (by simp) _).alloc (by simp; omega) _
  have hsz : w1.heap.size = w.heap.size + 1 + 1 + 1 := by rw [hw1]; simp
  have q5 : w1.heap[w.heap.size]? = some (.cells #[.int .i64 low] 3 (0, 0)) := by
    rw [hw1]
    exact (Below.heap_alloc _ _ _ (by simp; omega)).trans ((Below.heap_alloc _ _ _ (by simp)).trans (heap_alloc_new w _))
  have q6 : w1.heap[w.heap.size + 1]? = some (.cells #[.int .i64 n] 3 (0, 0)) := by
    rw [hw1]
    refine (Below.heap_alloc _ _ _ (by simp)).trans ?_
    have := heap_alloc_new (w.alloc (.cells #[.int .i64 low] 3)) (.cells #[.int .i64 n] 3)
    rw [World.size_alloc] at this
    exact this
  have q7 : w1.heap[w.heap.size + 1 + 1]? = some (.cells #[.int .i64 o] 3 (0, 0)) := by
    rw [hw1]
    have := heap_alloc_new ((w.alloc (.cells #[.int .i64 low] 3)).alloc (.cells #[.int .i64 n] 3)) (.cells #[.int .i64 o] 3)
    rw [World.size_alloc, World.size_alloc] at this
    exact this
  have HG1 := Lib.hid (h.below hb)
  have HF0 := Lib.hid h
  have HB := Lib.hid hb
  have c5 := cell_of_one q5
  have c6 := cell_of_one q6
  have c7 := cell_of_one q7
  have HQ := Lib.hid (And.intro q5 (And.intro q6 (And.intro q7 hsz)))
  obtain ⟨R, hR⟩ : ∃ R, roomV low n o L = R := ⟨_, rfl⟩
  rw [hR]
  have HR0 := Lib.hid hR.symm
  unfold roomV at HR0
  clear hR q5 q6 q7 hb h
  have hsf : ∀ (a : Addr) (fn : Fn) (first cap : Array Value) (w : World), (store a (.func fn first cap)).run Try.prog w = stored Try.prog w a (.func fn first cap) .plain := fun a fn first cap w => run_store Try.prog w a _ .plain rfl
  go_enter Try.func12, Try.ntmps12
  go_upto_region 1 with fail
  rw [← hw1]
  clear hw1
  have HA := Lib.hid (show w.heap.size < w.heap.size + 1 from Nat.lt_succ_self _)
  by_cases e1 : n < 1
  · rw [if_pos (.inl e1)] at HR0
    clear hsz
    go_wp2_with fail
    refine bodyPost_ret (v := .tuple #[.int .i64 0, .int .i64 2]) (by simp [results, Try.results12, go_sem]) rfl ⟨by rw [HR0.out], HB.out⟩
  · by_cases e2 : o < 0
    · rw [if_pos (.inr (.inl e2))] at HR0
      clear hsz
      go_wp2_with fail
      refine bodyPost_ret (v := .tuple #[.int .i64 0, .int .i64 2]) (by simp [results, Try.results12, go_sem]) rfl ⟨by rw [HR0.out], HB.out⟩
    · by_cases e3 : 8 < o
      · rw [if_pos (.inr (.inr e3))] at HR0
        clear hsz
        go_wp2_with fail
        refine bodyPost_ret (v := .tuple #[.int .i64 0, .int .i64 2]) (by simp [results, Try.results12, go_sem]) rfl ⟨by rw [HR0.out], HB.out⟩
      · by_cases e4 : 4096 ≤ low
        · rw [if_neg (by omega), if_pos e4] at HR0
          clear hsz
          go_wp2_with fail
          refine bodyPost_ret (v := .tuple #[.int .i64 0, .int .i64 13]) (by simp [results, Try.results12, go_sem]) rfl ⟨by rw [HR0.out], HB.out⟩
        · rw [if_neg (by omega), if_neg e4] at HR0
          have hz := two_size o (by omega)
          have hs0 := scanF_room (low := max low 1) hz.1 (show 1 ≤ n by omega) HG1.out.rg
          obtain ⟨t, htg, hgd, hL⟩ := HG1.out
          have hrs := roomT_scan (max low 1) n (G.two o) hz.1 (by omega) t 1 4096 (by omega) hgd.1
          have hsb := scan_bound (max low 1) n (G.two o) (tlist t) 1 4096 hgd.1
          rw [hL] at hrs hsb
          obtain ⟨v, F', hg, hnd, hF, hq⟩ := htg
          obtain ⟨lw, hlw⟩ : ∃ lw, max low 1 = lw := ⟨_, rfl⟩
          have hlr : 1 ≤ lw ∧ lw ≤ 5000 := by omega
          have hmx : (if low < 1 then 1 else low) = lw := by split <;> omega
          rw [hlw] at hrs hsb HR0 hs0
          unfold scanF at HR0
          obtain ⟨p1, p2, hp⟩ : ∃ p1 p2, scan lw n (G.two o) L 1 = (p1, p2) := ⟨_, _, rfl⟩
          rw [hp] at hrs hsb HR0 hs0
          simp only at hsb HR0 hs0
          obtain ⟨Q, hQ⟩ : ∃ Q, fitI lw n (G.two o) p2 4096 = Q := ⟨_, rfl⟩
          rw [hQ] at HR0 hs0
          -- the closure's world
          have z5 := fun j => frozen_of_row w1 w.heap.size j _ 3 HQ.out.1
          have hgA : g ≠ w.heap.size := fun e => by
            have h1 := HQ.out.1
            rw [← e, hg] at h1
            cases h1
          clear hp
          obtain ⟨w5, hw5⟩ : ∃ w5, w5 = (w1.setCell ⟨w.heap.size, 0, none⟩ (.int .i64 lw)).alloc (.cells #[.nilFunc] 57) := ⟨_, rfl⟩
          have hst : w1.heap.size = (w1.setCell ⟨w.heap.size, 0, none⟩ (.int .i64 lw)).heap.size := by simp
          have keep : ∀ b, b < w1.heap.size → b ≠ w.heap.size → w5.heap[b]? = w1.heap[b]? := fun b hb hne => by
            rw [hw5]
            exact (Below.heap_alloc _ _ _ (by rw [← hst]; exact hb)).trans (Below.heap_setCell _ _ _ _ hne)
          have r5 : w5.heap[w.heap.size]? = some (.cells #[.int .i64 lw] 3 (0, 0)) := by
            rw [hw5]
            exact (Below.heap_alloc _ _ _ (by rw [← hst]; omega)).trans ((heap_setCell_same w1 w.heap.size 0 _ 3 _ HQ.out.1).trans rfl)
          have r6 := (keep (w.heap.size + 1) (by omega) (by omega)).trans HQ.out.2.1
          have r7 := (keep (w.heap.size + 1 + 1) (by omega) (by omega)).trans HQ.out.2.2.1
          have r10 : w5.heap[w.heap.size + 1 + 1 + 1]? = some (.cells #[.nilFunc] 57 (0, 0)) := by
            rw [hw5, ← hsz, hst]
            exact heap_alloc_new _ _
          have hA1 : ∀ b, b ∈ F → b < w.heap.size := HF0.out.lt
          have hg5 := (keep g (lt_of_block hg) hgA).trans hg
          have hnd5 : Nd w5 t v F' := hnd.of_blocks fun b hb => keep b (hnd.lt b hb) (by have := hA1 b (by rw [hF]; simp [hb]); omega)
          have HB5 := Lib.hid (show Below w.heap.size w w5 from by
            rw [hw5]
            exact (Below.setCell HB.out (by simp) _).alloc (by have := HB.out.size; simp at this ⊢; omega) _)
          have y10 := fun j => frozen_of_row w5 (w.heap.size + 1 + 1 + 1) j _ 57 r10
          have x10 := cell_of_one r10
          go_upto_region 9 with fail
          rw [← hw5]
          obtain ⟨w6, hw6⟩ : ∃ w6, w6 = w5.setCell ⟨w.heap.size + 1 + 1 + 1, 0, none⟩ (.func (Fn.func 29) #[] #[.pointer (some ⟨w.heap.size, 0, none⟩), .pointer (some ⟨w.heap.size + 1, 0, none⟩), .pointer (some ⟨w.heap.size + 1 + 1 + 1, 0, none⟩), .pointer (some ⟨w.heap.size + 1 + 1, 0, none⟩)]) := ⟨_, rfl⟩
          have hE6 : Env w6 w.heap.size (w.heap.size + 1) (w.heap.size + 1 + 1) (w.heap.size + 1 + 1 + 1) lw n o := by
            rw [hw6]
            exact ⟨row_other r5 (by omega) _ _, row_other r6 (by omega) _ _, row_other r7 (by omega) _ _, (heap_setCell_same w5 _ 0 _ 57 _ r10).trans rfl⟩
          have hg6 : w6.heap[g]? = some (.cells #[.pointer v] 64 (0, 0)) := by rw [hw6]; exact row_other hg5 (by have := hA1 g (by rw [hF]; simp); omega) _ _
          have hnd6 : Nd w6 t v F' := by rw [hw6]; exact hnd5.other (fun hm => by have := hA1 _ (by rw [hF]; exact List.mem_cons_of_mem _ hm); omega) _ _
          have HB6 := Lib.hid (show Below w.heap.size w w6 from by rw [hw6]; exact Below.setCell HB5.out (by simp; omega) _)
          clear r5 r6 r7 hg5 hnd5 hw5 keep hst z5 hg hnd c5 c6 c7 hgA
          go_upto_region 10 with fail
          rw [← hw6]
          clear hw6 x10 y10 hsz HQ HG1 HB
          obtain ⟨q5, q6, q7, q10⟩ := hE6.cells
          have g0 := cell_of_one hg6
          have HR1 := Lib.hid (fun j => by have := Room1_any w.heap.size (w.heap.size + 1) (w.heap.size + 1 + 1) (w.heap.size + 1 + 1 + 1) lw n o hlr (by omega) (by omega) t v F' 1 (w6.drewN j) (hE6.drewN j) (hnd6.drewN j) ⟨by omega, 4096, hgd.1, by omega⟩; rw [hrs] at this; exact this)
          have HFT := Lib.hid (fun j => by have := fit_any p2 4096 lw n o (w6.drewN j) (by omega) (by omega) hlr (by omega) (by omega); rw [hQ] at this; exact this)
          clear hE6 hg6 hnd6 hrs hQ
          go_quiet ((go_at_call 29; exact Calls.quiet_of (HR1.out _)))
          by_cases e5 : 0 < p1
          · rw [if_pos e5, if_neg (by omega)] at HR0
            have e6 : (p1 == 0) = false := by rw [beq_eq_false_iff_ne]; omega
            go_wp2_with fail
            refine bodyPost_ret (v := .tuple #[.int .i64 p1, .int .i64 0]) (by simp [results, Try.results12, go_sem]) rfl ⟨by rw [HR0.out], below_drewN HB6.out _⟩
          · rw [if_neg e5] at HR0
            obtain rfl : p1 = 0 := by omega
            go_wp2_with fail
            refine (HFT.out _).mono ?_
            rintro ex w7 ⟨rfl, rfl⟩
            by_cases e6 : Q = 0
            · subst e6
              rw [if_pos rfl] at HR0
              go_wp2_with fail
              refine bodyPost_ret (v := .tuple #[.int .i64 0, .int .i64 13]) (by simp [results, Try.results12, go_sem]) rfl ⟨by rw [HR0.out], below_drewN HB6.out _⟩
            · rw [if_neg e6] at HR0
              have e7 : (Q == 0) = false := by rw [beq_eq_false_iff_ne]; omega
              go_wp2_with fail
              refine bodyPost_ret (v := .tuple #[.int .i64 Q, .int .i64 0]) (by simp [results, Try.results12, go_sem]) rfl ⟨by rw [HR0.out], below_drewN HB6.out _⟩

end Go.Proofs.Ytkaglggljomgdaa
