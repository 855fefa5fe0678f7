/- Parts of the proofs of layer 2 (ram): contracts of its functions, and the laws' walks. -/
import Derived.Test.YtmjkcmpanoepgaaProg
import Derived.WalkKit
import Derived.WalkSpells
import Derived.WalkLawsBesides
import Derived.BigQuiet
import Derived.Deep.QuietTactic
import Derived.Lib.Hide
import Derived.Deep.RegionHeld3
import Derived.Deep.DeepCutAuto
import Derived.KernelRfl
import Derived.Deep.OwnRows
import Derived.Laws.CopyOwn
import Derived.Laws.CopyRow
import Derived.StillTailTactics
import Derived.Test.YtmjkcmpanoepgaaSl
import Derived.ArgAppend
import Derived.Test.YtmjkcmpanoepgaaM10
namespace Go.Proofs.Ytmjkcmpanoepgaa
open Go.RowKit
set_option linter.unusedVariables false
set_option linter.unusedSimpArgs false

/-- The words lo.. (j of them) lie at tt. -/
def cq (v : Nat → Int) (tt lo j : Nat) (i : Nat) : Int := if tt ≤ i ∧ i < tt + j then v (lo + (i - tt)) else v i
theorem cq_step (v : Nat → Int) (tt lo j i : Nat) : (if i = tt + j then v (lo + j) else cq v tt lo j i) = cq v tt lo (j + 1) i := by
  unfold cq
  by_cases h1 : i = tt + j
  · rw [if_pos h1, if_pos (by omega), show i - tt = j from by omega]
  · rw [if_neg h1]
    by_cases h2 : tt ≤ i ∧ i < tt + j
    · rw [if_pos h2, if_pos (by omega)]
    · rw [if_neg h2, if_neg (by omega)]
def vs (v : Nat → Int) (N : Nat) : List Value := (List.range N).map fun i => .int .u64 (v i)
theorem vs_length (v : Nat → Int) (N : Nat) : (vs v N).length = N := by simp [vs]
theorem vs_get (v : Nat → Int) (N i : Nat) (hi : i < N) : (vs v N)[i]? = some (.int .u64 (v i)) := by simp [vs, hi]
theorem add_none (b o j : Nat) : (⟨b, o, none⟩ : Addr).add j = ⟨b, o + j, none⟩ := by
  unfold Addr.add
  split
  · rename_i h; subst h; rfl
  · rfl
theorem vs_cells {w : World} {g b N : Nat} {v : Nat → Int} (h : RMem w g b N v) : ∀ j u, (vs v N)[j]? = some u → w.cell? ((⟨b, 0, none⟩ : Addr).add j) = some u := by
  intro j u hj
  have hl : j < N := by
    have := (List.getElem?_eq_some_iff.1 hj).1
    rwa [vs_length] at this
  rw [vs_get v N j hl] at hj
  cases hj
  rw [add_none, Nat.zero_add]
  exact h.2.1.cell hl
theorem vs_one (v : Nat → Int) (N : Nat) : ∀ u ∈ vs v N, u.oneCell' = true := by
  intro u hu
  simp only [vs, List.mem_map] at hu
  obtain ⟨i, _, rfl⟩ := hu
  rfl
set_option maxHeartbeats 4000000 in
theorem rcopy_any (g b N n : Nat) (v : Nat → Int) (tt lo m : Nat) (w : World) (h : RMem w g b N v) (hn : n = N * 8) (h0 : 1 ≤ m) (h1 : tt + m ≤ n / 64) (h2 : lo + m ≤ n / 64) : Calls Try.prog 25 #[.pointer (some ⟨g, 0, none⟩), .int .i64 tt, .int .i64 lo, .int .i64 m] w fun e w' => e = .returned (.int .i64 0) ∧ (∃ w1, Below w.heap.size w w1 ∧ One b w1 w') ∧ RMem w' g b N (cq v (tt * 8) (lo * 8) (m * 8)) := by
  have hN : N ≤ 8192 := h.2.2.2.2.1
  have hN1 : 64 ≤ N := h.2.2.2.1
  have H := Lib.hid h
  clear h
  have ht : (frm n tt m == 0) = true ∧ (frm n lo m == 0) = true := by
    constructor <;>
    · rw [beq_iff_eq]
      unfold frm
      rw [if_neg (by omega), if_neg (by omega), if_neg (by omega), if_neg (by omega)]
  have HT := Lib.hid ht
  clear ht
  have hm1 : decide ((m : Int) < 1) = false := decide_eq_false (by omega)
  have hhi : (tt + m) * 8 ≤ N := by omega
  have hhi2 : (lo + m) * 8 ≤ N := by omega
  have hbA : Below w.heap.size w (w.alloc (.cells #[] 22 (0, 0))) := (Below.refl _ w).alloc (Nat.le_refl _) _
  have HA := Lib.hid (H.out.below hbA)
  have hcell := cell_of_one HA.out.1
  have HBA := Lib.hid hbA
  clear hbA
  obtain ⟨i0, hi, hz0, hz1, hz2⟩ := info_parts (show (Try.prog.info? 22).map (fun i => (i.zero, i.size, i.bytes)) = some (some (.int .u64 0), 1, 8) by kernel_rfl)
  go_enter Try.func25, Try.ntmps25
  go_wp2_with fail
  refine (there_any g b N n v tt m _ H.out hn (by omega) (by omega)).mono ?_
  rintro e wz ⟨rfl, rfl⟩
  rw [HT.out.1]
  go_wp2_with fail
  refine (there_any g b N n v lo m _ H.out hn (by omega) (by omega)).mono ?_
  rintro e wz ⟨rfl, rfl⟩
  rw [HT.out.2]
  clear h1 h2 hn
  go_wp2_with (at_builtin; refine wpList_append_grows _ rfl (.tmp 25) (.tmp 29) 45 rfl 22 i0 (.int .u64 0) 1 8 Try.underlying45 hi hz0 hz1 hz2 rfl (by decide) (some ⟨w.heap.size, 0, none⟩) 0 0 [] rfl (fun h => by cases h) rfl (fun _ _ j u hj => by simp at hj) ⟨b, 0, none⟩ N N (vs v N) rfl (by rw [vs_length, Nat.mul_one]) (vs_cells HA.out) (vs_one v N) (by omega) (by unfold maxLen; omega) (by omega) ?_; intro v' w3 hown hgr)
  have hb3 : Below w.heap.size w w3 := HBA.out.grown hgr (by rw [World.size_alloc]; exact Nat.le_succ _) (fun q hq => by cases hq)
  have HB3 := Lib.hid hb3
  have HM3 := Lib.hid (H.out.below hb3)
  have hlt := H.out.lt
  clear hgr hb3
  have hown' := hown
  obtain ⟨q1, q2⟩ := hown
  rcases q2 with ⟨e1, e2⟩ | ⟨b3, cap3, cur, rfl, q3, q4, q5, q6, q7, q8⟩
  · exfalso; omega
  have hcells : ∀ j, j < N → w3.cell? ⟨b3, j, none⟩ = some (.int .u64 (v j)) := fun j hj => by
    have := (hown'.cellAt j (by omega)).trans (vs_get v N j hj)
    exact this
  have hne : b3 ≠ b := by rw [World.size_alloc] at q3; omega
  have HC := Lib.hid hcells
  have hcm3 : N ≤ cap3 := by omega
  clear hown' q1 q3 q4 q6 q7 q8 hcells q5
  rw [Nat.zero_add]
  go_wp2_with fail
  go_loopw [10] (fun s wr => ∃ j : Nat, j ≤ m * 8 ∧ s = .int .i64 j ∧ RowKit.Hid (One b w3 wr ∧ RMem wr g b N (cq v (tt * 8) (lo * 8) j))) (fun s _ => m * 8 - (intOf s).toNat)
  case atStart => exact ⟨0, by omega, rfl, Lib.hid ⟨One.refl _ _, HM3.out.congr fun i _ => by unfold cq; rw [if_neg (by omega)]⟩⟩
  case round =>
    obtain ⟨j, hj, rfl, HM⟩ := hrel
    have w1 : IntKind.i64.wrap ((m : Int) * 8) = (m : Int) * 8 := by rw [IntKind.wrap_i64]; omega
    by_cases hlt : j < m * 8
    · have d1 : decide ((j : Int) < (m : Int) * 8) = true := decide_eq_true (by omega)
      have c0 := cell_of_one HM.out.2.1
      have c1 := HM.out.2.2.1.cell (i := tt * 8 + j) (by omega)
      have c2 := HM.out.2.2.1.frozen (tt * 8 + j)
      have c3 := HC.out (lo * 8 + j) (by omega)
      rw [← World.cell?_of_block (a := ⟨b3, lo * 8 + j, none⟩) (HM.out.1.2.2.2.2 b3 hne)] at c3
      have x1 : IntKind.i64.wrap ((tt : Int) * 8) = (tt : Int) * 8 := by rw [IntKind.wrap_i64]; omega
      have x2 : IntKind.i64.wrap ((lo : Int) * 8) = (lo : Int) * 8 := by rw [IntKind.wrap_i64]; omega
      have x3 : IntKind.i64.wrap ((tt : Int) * 8 + j) = (tt : Int) * 8 + j := by rw [IntKind.wrap_i64]; omega
      have x4 : IntKind.i64.wrap ((lo : Int) * 8 + j) = (lo : Int) * 8 + j := by rw [IntKind.wrap_i64]; omega
      have x5 : ((tt : Int) * 8 + j).toNat = tt * 8 + j := by omega
      have x6 : ((lo : Int) * 8 + j).toNat = lo * 8 + j := by omega
      have x7 : 0 ≤ (tt : Int) * 8 + j := by omega
      have x8 : 0 ≤ (lo : Int) * 8 + j := by omega
      have x9 : tt * 8 + j < N := by omega
      have y0 : lo * 8 + j < N := by omega
      have y1 : (tt : Int) * 8 + j < N := by omega
      have y2 : (lo : Int) * 8 + j < N := by omega
      go_wp2_with fail
      go_still_tail 16, (by kernel_rfl)
      change wpList _ _ _ _ _ (World.drew _)
      have HM2 : RowKit.Hid (One b w3 wr.drew ∧ RMem wr.drew g b N (cq v (tt * 8) (lo * 8) j)) := Lib.hid ⟨HM.out.1, HM.out.2⟩
      clear HM c0 c1 c2 c3
      generalize wr.drew = wd at HM2 ⊢
      have c1 := HM2.out.2.2.1.cell (i := tt * 8 + j) (by omega)
      have c2 := HM2.out.2.2.1.frozen (tt * 8 + j)
      go_wp2_with fail
      exact ⟨⟨j + 1, by omega, rfl, Lib.hid ⟨HM2.out.1.trans (One.setCell _ _ _ _), (HM2.out.2.set _ _).congr fun i _ => cq_step v (tt * 8) (lo * 8) j i⟩⟩, by simp [intOf]; omega⟩
    · have d1 : decide ((j : Int) < (m : Int) * 8) = false := decide_eq_false (by omega)
      have hje : j = m * 8 := by omega
      subst hje
      go_wp2_with fail
      go_ret
      exact ⟨rfl, ⟨w3, HB3.out, HM.out.1⟩, HM.out.2⟩
theorem frm_23 {n : Nat} {fr m : Int} (h : frm n fr m ≠ 0) (hm : 1 ≤ m) : frm n fr m = 3 := by
  unfold frm at h ⊢
  rw [if_neg (by omega)] at h ⊢
  split
  · rfl
  · split
    · rfl
    · split
      · rfl
      · rename_i a1 a2 a3
        rw [if_neg a1, if_neg a2, if_neg a3] at h
        exact (h rfl).elim
set_option maxHeartbeats 1000000 in
theorem rcopy_no (g b N n : Nat) (v : Nat → Int) (tt lo m : Int) (w : World) (h : RMem w g b N v) (hn : n = N * 8) (hr : -9223372036854775808 ≤ tt ∧ tt < 9223372036854775808) (hr2 : -9223372036854775808 ≤ lo ∧ lo < 9223372036854775808) (h0 : cpe n tt lo m ≠ 0) : Calls Try.prog 25 #[.pointer (some ⟨g, 0, none⟩), .int .i64 tt, .int .i64 lo, .int .i64 m] w fun e w' => e = .returned (.int .i64 (cpe n tt lo m)) ∧ w = w' := by
  have H := Lib.hid h
  clear h
  by_cases hm : m < 1
  · have hm1 : decide (m < 1) = true := decide_eq_true hm
    have e2 : cpe n tt lo m = 2 := by unfold cpe frm; rw [if_pos hm, if_neg (by omega)]
    rw [e2]
    clear h0 e2
    go_enter Try.func25, Try.ntmps25
    go_wp2_with fail
    go_ret
    exact ⟨rfl, rfl⟩
  · have hm1 : decide (m < 1) = false := decide_eq_false hm
    unfold cpe at h0 ⊢
    by_cases ht : frm n tt m = 0
    · rw [if_pos ht] at h0 ⊢
      have z1 : (frm n tt m == 0) = true := by rw [beq_iff_eq]; exact ht
      have z2 : (frm n lo m == 0) = false := by rw [beq_eq_false_iff_ne]; exact h0
      have Z1 := Lib.hid z1
      have Z2 := Lib.hid z2
      rw [frm_23 h0 (by omega)]
      clear z1 z2 h0 ht
      go_enter Try.func25, Try.ntmps25
      go_wp2_with fail
      refine (there_any g b N n v tt m _ H.out hn (by omega) hr).mono ?_
      rintro e wz ⟨rfl, rfl⟩
      rw [Z1.out]
      go_wp2_with fail
      refine (there_any g b N n v lo m _ H.out hn (by omega) hr2).mono ?_
      rintro e wz ⟨rfl, rfl⟩
      rw [Z2.out]
      go_wp2_with fail
      go_ret
      exact ⟨rfl, rfl⟩
    · rw [if_neg ht] at h0 ⊢
      have z1 : (frm n tt m == 0) = false := by rw [beq_eq_false_iff_ne]; exact ht
      have Z1 := Lib.hid z1
      rw [frm_23 ht (by omega)]
      clear z1 h0 ht
      go_enter Try.func25, Try.ntmps25
      go_wp2_with fail
      refine (there_any g b N n v tt m _ H.out hn (by omega) hr).mono ?_
      rintro e wz ⟨rfl, rfl⟩
      rw [Z1.out]
      go_wp2_with fail
      go_ret
      exact ⟨rfl, rfl⟩

end Go.Proofs.Ytmjkcmpanoepgaa
