/- Parts of the proofs of layer 25 (clock): contracts of its functions, and the laws' walks. -/
import Derived.Test.YtehbonhdhblpgaaProg
import Derived.WalkKit
import Derived.WalkSpells
import Derived.WalkLawsBesides
import Derived.BigQuiet
import Derived.Deep.QuietTactic
import Derived.Lib.Hide
import Derived.Deep.RegionHeld3
import Derived.Deep.DeepCutAuto
import Derived.KernelRfl
import Derived.Deep.OwnRows
import Derived.Laws.CopyOwn
import Derived.Laws.CopyRow
import Derived.StillTailTactics
import Derived.Deep.RegionLaw
import Derived.Test.YtehbonhdhblpgaaC1
namespace Go.Proofs.Ytehbonhdhblpgaa
open Go.RowKit
set_option linter.unusedVariables false
set_option linter.unusedSimpArgs false

theorem fres_in {l : List K} {x : S} (h : idx l x < l.length) : fres l x = .tuple #[.int .i64 (idx l x : Nat), .int .i64 0] := if_pos h
theorem fres_out {l : List K} {x : S} (h : ¬ idx l x < l.length) : fres l x = .tuple #[.int .i64 0, .int .i64 6] := if_neg h
set_option maxRecDepth 100000 in
theorem len_any (g : Nat) (F : List Nat) (ks : List K) (w : World) (h : Clk w g F ks) :
    Calls Try.prog 23 #[.pointer (some ⟨g, 0, none⟩)] w fun e w' => e = .returned (.int .i64 (ks.length : Nat)) ∧ w = w' := by
  obtain ⟨v, rfl, h1, h2, h3⟩ := h
  have c0 := cell_of_one h2
  obtain ⟨ao, cap, rfl, hnc, hcm⟩ := h3.slice
  clear h2 h3
  go_enter Try.func23, Try.ntmps23
  go_wp2
  go_ret
  exact ⟨rfl, rfl⟩
set_option maxRecDepth 100000 in
theorem new_any (w : World) : Calls Try.prog 9 #[] w fun e w' => e = .returned (.pointer (some ⟨w.heap.size, 0, none⟩)) ∧ Below w.heap.size w w' ∧ Clk w' w.heap.size [w.heap.size] [] := by
  have hb0 : Below w.heap.size w (w.alloc (.cells #[.slice none 0 0] 57)) := (Below.refl _ w).alloc (Nat.le_refl _) _
  have hk : Clk (w.alloc (.cells #[.slice none 0 0] 57)) w.heap.size [w.heap.size] [] := ⟨.slice none 0 0, rfl, by simp [vblk_nil], heap_alloc_new _ _, Sq.nil _ _ _⟩
  go_enter Try.func9, Try.ntmps9
  go_wp2
  go_ret
  exact ⟨rfl, hb0, hk⟩
/-- What Age answers. -/
def ares (l : List K) (x : S) : Value := if idx l x < l.length then .tuple #[.int .i64 ((l[idx l x]?.map K.a).getD 0), .int .i64 0] else .tuple #[.int .i64 0, .int .i64 6]
theorem ares_in {l : List K} {x : S} {k : K} (h : idx l x < l.length) (hk : l[idx l x]? = some k) : ares l x = .tuple #[.int .i64 k.a, .int .i64 0] := by
  unfold ares
  rw [if_pos h, hk]
  rfl
theorem ares_out {l : List K} {x : S} (h : ¬ idx l x < l.length) : ares l x = .tuple #[.int .i64 0, .int .i64 6] := if_neg h
set_option maxRecDepth 100000 in
set_option maxHeartbeats 4000000 in
theorem age_any (g : Nat) (F : List Nat) (ks : List K) (x : S) (w : World) (h : Clk w g F ks) (hm : ks.length ≤ 1000) :
    Calls Try.prog 15 #[.pointer (some ⟨g, 0, none⟩), .agg #[.int .i64 x.s, .int .i64 x.p]] w fun e w' => e = .returned (ares ks x) ∧ Below w.heap.size w w' := by
  have hb0 : Below w.heap.size w (w.alloc (.cells #[.int .i64 x.s, .int .i64 x.p] 24)) := (Below.refl _ w).alloc (Nat.le_refl _) _
  have HM := Lib.hid (h.below hb0)
  clear h
  go_enter Try.func15, Try.ntmps15
  go_wp2_with fail
  have hs0 : (w.alloc (.cells #[.int .i64 x.s, .int .i64 x.p] 24)).heap.size = w.heap.size + 1 := World.size_alloc _ _
  generalize (w.alloc (.cells #[.int .i64 x.s, .int .i64 x.p] 24)) = w0 at hb0 hs0 HM ⊢
  refine (find_any g F ks x w0 HM.out hm).mono ?_
  rintro e w1 ⟨rfl, hb1⟩
  have HM1 := Lib.hid (HM.out.below hb1)
  have HB := Lib.hid (hb0.trans (hb1.mono (by omega)))
  clear HM hb0 hb1 hs0
  by_cases hx : idx ks x < ks.length
  · rw [fres_in hx]
    obtain ⟨k, hk, _⟩ := idx_get ks x hx
    have HR := Lib.hid (ares_in hx hk)
    obtain ⟨v, rfl, h1, h2, h3⟩ := HM1.out
    have c0 := cell_of_one h2
    obtain ⟨g0, g1, g2, g3⟩ := kc_get ks _ k hk
    rcases h3.cases with ⟨_, h0⟩ | ⟨b, cap', rfl, q1, q2, hbl, hcell, _⟩
    · omega
    · have e3 := hcell _ _ g3
      clear HM1 hcell h2 h3 h1 g0 g1 g2 g3 hk
      generalize idx ks x = i at hx e3 ⊢
      go_wp2_with fail
      exact bodyPost_ret (results_tmp2 rfl _ _ _) rfl ⟨by rw [HR.out]; rfl, HB.out⟩
  · rw [fres_out hx]
    have HR := Lib.hid (ares_out hx)
    go_wp2_with fail
    exact bodyPost_ret (results_tmp2 rfl _ _ _) rfl ⟨by rw [HR.out]; rfl, HB.out⟩
/-- A key touched. -/
def touchK (l : List K) (x : S) : List K := if idx l x < l.length then l.modify (idx l x) (fun k => { k with t := true }) else l
def ecode (l : List K) (x : S) : Int := if idx l x < l.length then 0 else 6
set_option maxRecDepth 100000 in
set_option maxHeartbeats 4000000 in
theorem touch_any (g : Nat) (F : List Nat) (ks : List K) (x : S) (w : World) (h : Clk w g F ks) (hm : ks.length ≤ 1000) :
    Calls Try.prog 13 #[.pointer (some ⟨g, 0, none⟩), .agg #[.int .i64 x.s, .int .i64 x.p]] w fun e w' => e = .returned (.int .i64 (ecode ks x)) ∧ Chg F F w w' ∧ Clk w' g F (touchK ks x) := by
  have hb0 : Below w.heap.size w (w.alloc (.cells #[.int .i64 x.s, .int .i64 x.p] 24)) := (Below.refl _ w).alloc (Nat.le_refl _) _
  have HM := Lib.hid (h.below hb0)
  clear h
  go_enter Try.func13, Try.ntmps13
  go_wp2_with fail
  have hs0 : (w.alloc (.cells #[.int .i64 x.s, .int .i64 x.p] 24)).heap.size = w.heap.size + 1 := World.size_alloc _ _
  generalize (w.alloc (.cells #[.int .i64 x.s, .int .i64 x.p] 24)) = w0 at hb0 hs0 HM ⊢
  refine (find_any g F ks x w0 HM.out hm).mono ?_
  rintro e w1 ⟨rfl, hb1⟩
  have HM1 := Lib.hid (HM.out.below hb1)
  have HB := Lib.hid (Chg.of_below (F := F) (hb0.trans (hb1.mono (by omega))))
  clear HM hb0 hb1 hs0
  by_cases hx : idx ks x < ks.length
  · rw [fres_in hx]
    have HR := Lib.hid (show ecode ks x = 0 from if_pos hx)
    obtain ⟨k, hk, _⟩ := idx_get ks x hx
    obtain ⟨v, rfl, h1, h2, h3⟩ := HM1.out
    have c0 := cell_of_one h2
    obtain ⟨g0, g1, g2, g3⟩ := kc_get ks _ k hk
    have hset : (kc ks).set (idx ks x * 4 + 2) (.bool true) = kc (ks.set (idx ks x) { k with t := true }) := flat_set K.cs 4 K.cs_length 2 (.bool true) (by decide) k { k with t := true } rfl ks _ hk
    rcases h3.cases with ⟨_, h0⟩ | ⟨b, cap', rfl, q1, q2, hbl, hcell, hfz⟩
    · omega
    · have e2 := hcell _ _ g2
      have f2 := hfz (idx ks x * 4 + 2)
      have HF : RowKit.Hid (Clk (w1.setCell ⟨b, idx ks x * 4 + 2, none⟩ (.bool true)) g (g :: vblk (.slice (some ⟨b, 0, none⟩) ks.length cap')) (touchK ks x)) := Lib.hid (by
        rw [show touchK ks x = ks.modify (idx ks x) (fun k => { k with t := true }) from if_pos hx]
        have hgb : g ≠ b := by simpa [vblk_some] using h1
        have hmod : ks.modify (idx ks x) (fun k => { k with t := true }) = ks.set (idx ks x) { k with t := true } := by
          apply List.ext_getElem?
          intro j
          rw [List.getElem?_modify, List.getElem?_set]
          by_cases hj : idx ks x = j
          · subst hj
            rw [hk]
            simp [hx]
          · simp [hj]
        rw [hmod]
        refine ⟨_, rfl, h1, (Below.heap_setCell _ _ _ _ hgb).trans h2, ?_⟩
        have := h3.stored (idx ks x * 4 + 2) (.bool true)
        rw [hset] at this
        simpa using this)
      clear HM1 hcell h2 h3 h1 g0 g1 g2 g3 hk hset hfz
      generalize idx ks x = i at hx e2 f2 HF ⊢
      go_wp2_with fail
      exact bodyPost_ret (results_tmp rfl _ _ _) rfl ⟨by rw [HR.out]; rfl, HB.out.setCell _ _ _ (by simp [vblk_some]), HF.out⟩
  · rw [fres_out hx]
    have HR := Lib.hid (show ecode ks x = 6 from if_neg hx)
    have HT := Lib.hid (show touchK ks x = ks from if_neg hx)
    go_wp2_with fail
    exact bodyPost_ret (results_tmp rfl _ _ _) rfl ⟨by rw [HR.out]; rfl, HB.out, by rw [HT.out]; exact HM1.out⟩

end Go.Proofs.Ytehbonhdhblpgaa
