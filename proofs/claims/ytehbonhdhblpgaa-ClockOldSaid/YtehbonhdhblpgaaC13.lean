/- Parts of the proofs of layer 25 (clock): contracts of its functions, and the laws' walks. -/
import Derived.Test.YtehbonhdhblpgaaProg
import Derived.WalkKit
import Derived.WalkSpells
import Derived.WalkLawsBesides
import Derived.BigQuiet
import Derived.Deep.QuietTactic
import Derived.Lib.Hide
import Derived.Deep.RegionHeld3
import Derived.Deep.DeepCutAuto
import Derived.KernelRfl
import Derived.Deep.OwnRows
import Derived.Laws.CopyOwn
import Derived.Laws.CopyRow
import Derived.StillTailTactics
import Derived.Deep.RegionLaw
import Derived.Test.YtehbonhdhblpgaaC12
namespace Go.Proofs.Ytehbonhdhblpgaa
open Go.RowKit
set_option linter.unusedVariables false
set_option linter.unusedSimpArgs false

/-- The reference's clock: its struct in block g, its footprint F, its keys in a ring, the hand. -/
def RC (w : World) (g : Nat) (F : List Nat) (L : List K) (h : Nat) : Prop :=
  ∃ v, F = g :: vblk v ∧ g ∉ vblk v ∧ w.heap[g]? = some (.cells #[v, .int .i64 (h : Nat)] 42 (0, 0)) ∧ Sq w 45 4 v L.length (kc L) ∧ (h < L.length ∨ (L = [] ∧ h = 0))
theorem RC.lt {w : World} {g : Nat} {F : List Nat} {L : List K} {h : Nat} (r : RC w g F L h) : ∀ b, b ∈ F → b < w.heap.size := by
  obtain ⟨v, rfl, h1, h2, h3, _⟩ := r
  intro b hb
  rcases List.mem_cons.1 hb with rfl | hb
  · exact lt_of_block h2
  · exact h3.lt b hb
theorem RC.chg {w w' : World} {g : Nat} {F G G' : List Nat} {L : List K} {h : Nat} (r : RC w g F L h) (hc : Chg G G' w w') (hs : Sep F G) : RC w' g F L h := by
  have hl := r.lt
  obtain ⟨v, rfl, h1, h2, h3, h4⟩ := r
  exact ⟨v, rfl, h1, (hc.block (hl g (by simp)) (hs g (by simp))).trans h2, h3.chg hc fun b hb => hs b (by simp [hb]), h4⟩
theorem RC.below {w w' : World} {g : Nat} {F : List Nat} {L : List K} {h : Nat} (r : RC w g F L h) (hb : Below w.heap.size w w') : RC w' g F L h :=
  r.chg (Chg.of_below (F := []) hb) fun _ _ hm => by simp at hm
theorem RC.drewN {w : World} {g : Nat} {F : List Nat} {L : List K} {h : Nat} (r : RC w g F L h) (k : Nat) : RC (w.drewN k) g F L h := r
theorem RC.drew {w : World} {g : Nat} {F : List Nat} {L : List K} {h : Nat} (r : RC w g F L h) : RC w.drew g F L h := r
/-- What At answers. -/
def ares' (l : List K) (x : S) : Int := if idx l x < l.length then (idx l x : Nat) else -1
set_option maxRecDepth 100000 in
set_option maxHeartbeats 4000000 in
theorem at_any (g : Nat) (F : List Nat) (L : List K) (h : Nat) (x : S) (w : World) (r : RC w g F L h) (hm : L.length ≤ 1000) :
    Calls Try.prog 17 #[.pointer (some ⟨g, 0, none⟩), .agg #[.int .i64 x.s, .int .i64 x.p]] w fun e w' => e = .returned (.int .i64 (ares' L x)) ∧ Below w.heap.size w w' := by
  have hb0 : Below w.heap.size w (w.alloc (.cells #[.int .i64 x.s, .int .i64 x.p] 24)) := (Below.refl _ w).alloc (Nat.le_refl _) _
  have hX := heap_alloc_new w (.cells #[.int .i64 x.s, .int .i64 x.p] 24)
  obtain ⟨v, rfl, h1, h2, h3, h4⟩ := r.below hb0
  clear r
  obtain ⟨ao, cap, rfl, hnc, hcm⟩ := h3.slice
  go_enter Try.func17, Try.ntmps17
  go_upto_region 1 with fail
  generalize (w.alloc (.cells #[.int .i64 x.s, .int .i64 x.p] 24)) = w0 at *
  have c0 := cell_of_row w0 g 0 _ 42 _ h2
  have d0 := cell_of_row w0 w.heap.size 0 _ 24 _ hX
  have d1 := cell_of_row w0 w.heap.size 1 _ 24 _ hX
  replace c0 : w0.cell? ⟨g, 0, none⟩ = some (.slice ao L.length cap) := c0
  replace d0 : w0.cell? ⟨w.heap.size, 0, none⟩ = some (.int .i64 x.s) := d0
  replace d1 : w0.cell? ⟨w.heap.size, 1, none⟩ = some (.int .i64 x.p) := d1
  have HB := Lib.hid hb0
  clear hX h2 hb0
  go_wp2_with fail
  go_loopw [5] (fun s wr => ∃ i q : Nat, i ≤ idx L x ∧ s = .int .i64 (i : Nat) ∧ wr = w0.drewN q) (fun s _ => L.length - (intOf s).toNat)
  case atStart => exact ⟨0, 0, Nat.zero_le _, rfl, rfl⟩
  case round =>
    obtain ⟨i, q, hi, rfl, rfl⟩ := hrel
    have hil := idx_le L x
    by_cases hlt : i < L.length
    · have hk := List.getElem?_eq_getElem hlt
      generalize L[i] = k at hk
      obtain ⟨y1, y2⟩ := idx_step L x i k hi hk
      obtain ⟨g0, g1, g2, g3⟩ := kc_get L i k hk
      rcases h3.cases with ⟨_, h0⟩ | ⟨b, cap', hv, _, _, hbl, hcell, _⟩
      · omega
      · cases hv
        have e0 := hcell _ _ g0
        have e1 := hcell _ _ g1
        clear hk g0 g1 g2 g3 hcell h3
        have hki : ((i : Nat) : Int) < ((L.length : Nat) : Int) := by omega
        have Y1 := Lib.hid y1
        have Y2 := Lib.hid y2
        clear y1 y2
        by_cases hs : k.s = x.s
        · rw [hs] at e0
          by_cases hp : k.p = x.p
          · rw [hp] at e1
            go_wp2_with fail
            go_quiet (fail)
            go_wp2_with fail
            have e := Y1.out (by cases k; cases x; simp_all [K.key])
            refine bodyPost_ret (results_tmp rfl _ _ _) rfl ⟨?_, below_drewN (below_drewN HB.out _) _⟩
            unfold ares'
            rw [e, if_pos hlt]
            rfl
          · go_wp2_with fail
            go_quiet (fail)
            go_wp2_with fail
            have hi2 := Y2.out (fun e => hp (by rw [← e]; rfl))
            exact ⟨⟨i + 1, q + nq, hi2, by simp, rfl⟩, by simp [intOf]; omega⟩
        · go_wp2_with fail
          go_quiet (fail)
          go_wp2_with fail
          have hi2 := Y2.out (fun e => hs (by rw [← e]; rfl))
          exact ⟨⟨i + 1, q + nq, hi2, by simp, rfl⟩, by simp [intOf]; omega⟩
    · go_wp2_with fail
      refine bodyPost_ret (results_tmp rfl _ _ _) rfl ⟨?_, below_drewN HB.out _⟩
      unfold ares'
      rw [if_neg (by omega)]
      rfl
set_option maxRecDepth 100000 in
set_option maxHeartbeats 4000000 in
theorem rtouch_any (g : Nat) (F : List Nat) (L : List K) (h : Nat) (x : S) (w : World) (r : RC w g F L h) (hm : L.length ≤ 1000) :
    Calls Try.prog 31 #[.pointer (some ⟨g, 0, none⟩), .agg #[.int .i64 x.s, .int .i64 x.p]] w fun e w' => e = .returned (.int .i64 (ecode L x)) ∧ Chg F F w w' ∧ RC w' g F (touchK L x) h := by
  have hb0 : Below w.heap.size w (w.alloc (.cells #[.int .i64 x.s, .int .i64 x.p] 24)) := (Below.refl _ w).alloc (Nat.le_refl _) _
  have HM := Lib.hid (r.below hb0)
  clear r
  go_enter Try.func31, Try.ntmps31
  go_wp2_with fail
  generalize (w.alloc (.cells #[.int .i64 x.s, .int .i64 x.p] 24)) = w0 at hb0 HM ⊢
  refine (at_any g F L h x w0 HM.out hm).mono ?_
  rintro e w1 ⟨rfl, hb1⟩
  have HM1 := Lib.hid (HM.out.below hb1)
  have HB := Lib.hid (Chg.of_below (F := F) (hb0.trans (hb1.mono hb0.size)))
  clear HM hb0 hb1
  by_cases hx : idx L x < L.length
  · rw [show ares' L x = (idx L x : Nat) from if_pos hx]
    have HR := Lib.hid (show ecode L x = 0 from if_pos hx)
    obtain ⟨k, hk, _⟩ := idx_get L x hx
    obtain ⟨v, rfl, h1, h2, h3, h4⟩ := HM1.out
    have c0 := cell_of_row w1 g 0 _ 42 _ h2
    obtain ⟨g0, g1, g2, g3⟩ := kc_get L _ k hk
    have hset : (kc L).set (idx L x * 4 + 2) (.bool true) = kc (L.set (idx L x) { k with t := true }) := flat_set K.cs 4 K.cs_length 2 (.bool true) (by decide) k { k with t := true } rfl L _ hk
    rcases h3.cases with ⟨_, h0⟩ | ⟨b, cap', rfl, q1, q2, hbl, hcell, hfz⟩
    · omega
    · replace c0 : w1.cell? ⟨g, 0, none⟩ = some (.slice (some ⟨b, 0, none⟩) L.length cap') := c0
      have e2 := hcell _ _ g2
      have f2 := hfz (idx L x * 4 + 2)
      have HF : RowKit.Hid (RC (w1.setCell ⟨b, idx L x * 4 + 2, none⟩ (.bool true)) g (g :: vblk (.slice (some ⟨b, 0, none⟩) L.length cap')) (touchK L x) h) := Lib.hid (by
        rw [show touchK L x = L.modify (idx L x) (fun k => { k with t := true }) from if_pos hx]
        have hgb : g ≠ b := by simpa [vblk_some] using h1
        have hmod : L.modify (idx L x) (fun k => { k with t := true }) = L.set (idx L x) { k with t := true } := by
          apply List.ext_getElem?
          intro j
          rw [List.getElem?_modify, List.getElem?_set]
          by_cases hj : idx L x = j
          · subst hj
            rw [hk]
            simp [hx]
          · simp [hj]
        rw [hmod]
        have h5 : h < (L.set (idx L x) { k with t := true }).length ∨ (L.set (idx L x) { k with t := true } = [] ∧ h = 0) := by
          rcases h4 with h4 | ⟨rfl, _⟩
          · exact .inl (by simpa using h4)
          · simp at hx
        refine ⟨.slice (some ⟨b, 0, none⟩) L.length cap', rfl, h1, (Below.heap_setCell _ _ _ _ hgb).trans h2, ?_, h5⟩
        have := h3.stored (idx L x * 4 + 2) (.bool true)
        rw [hset] at this
        simpa using this)
      clear HM1 hcell h2 h3 h1 g0 g1 g2 g3 hk hset hfz h4
      generalize idx L x = i at hx e2 f2 HF ⊢
      have hge : decide ((i : Int) < 0) = false := decide_eq_false (by omega)
      go_wp2_with fail
      exact bodyPost_ret (results_tmp rfl _ _ _) rfl ⟨by rw [HR.out]; rfl, HB.out.setCell _ _ _ (by simp [vblk_some]), HF.out⟩
  · rw [show ares' L x = -1 from if_neg hx]
    have HR := Lib.hid (show ecode L x = 6 from if_neg hx)
    have HT := Lib.hid (show touchK L x = L from if_neg hx)
    go_wp2_with fail
    exact bodyPost_ret (results_tmp rfl _ _ _) rfl ⟨by rw [HR.out]; rfl, HB.out, by rw [HT.out]; exact HM1.out⟩

end Go.Proofs.Ytehbonhdhblpgaa
