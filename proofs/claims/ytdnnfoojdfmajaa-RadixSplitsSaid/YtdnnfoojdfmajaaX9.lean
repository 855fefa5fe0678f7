/- Parts of the proofs of layer 19 (radix): contracts of its functions, and the laws' walks. -/
import Derived.Test.YtdnnfoojdfmajaaProg
import Derived.WalkKit
import Derived.WalkSpells
import Derived.WalkLawsBesides
import Derived.BigQuiet
import Derived.Deep.QuietTactic
import Derived.Lib.Hide
import Derived.Deep.RegionHeld3
import Derived.Deep.DeepCutAuto
import Derived.KernelRfl
import Derived.Deep.OwnRows
import Derived.Laws.CopyOwn
import Derived.Laws.CopyRow
import Derived.StillTailTactics
import Derived.Deep.RegionLaw
import Derived.Handy
import Derived.Deep.CutRange
import Derived.Deep.CutBlock
import Derived.Test.YtdnnfoojdfmajaaX8
namespace Go.Proofs.Ytdnnfoojdfmajaa
open Go.RowKit
set_option linter.unusedVariables false
set_option linter.unusedSimpArgs false

/-- The marks behind a refresh from the level κ up, down to a page. -/
def Tgt (M M' : Nat → Nat → Nat → Bool) (g κ : Nat) : Prop :=
  ∀ j q m, M' j q m = if κ < j ∧ j ≤ 3 ∧ q = g / 8 ^ j ∧ m < 3 then any8 (fun s => M' (j - 1) (8 * q + s) m) else M j q m
/-- Half way: all levels up to c are new, and of the level above the marks below n. -/
def hyb (M M' : Nat → Nat → Nat → Bool) (c n : Nat) : Nat → Nat → Nat → Bool := fun j q m => if j ≤ c ∨ (j = c + 1 ∧ m < n) then M' j q m else M j q m
def St.wM (σ : St) (M : Nat → Nat → Nat → Bool) : St := {σ with M := M}
theorem hyb_start {M M' : Nat → Nat → Nat → Bool} {g κ : Nat} (h : Tgt M M' g κ) : hyb M M' κ 0 = M := by
  funext j q m
  unfold hyb
  split
  · rename_i hj
    rw [h j q m, if_neg (by omega)]
  · rfl
theorem hyb_next {M M' : Nat → Nat → Nat → Bool} {g κ c : Nat} (h : Tgt M M' g κ) : hyb M M' c 3 = hyb M M' (c + 1) 0 := by
  funext j q m
  unfold hyb
  by_cases h1 : j ≤ c
  · rw [if_pos (.inl h1), if_pos (.inl (by omega))]
  · by_cases h2 : j = c + 1
    · by_cases h3 : m < 3
      · rw [if_pos (.inr ⟨h2, h3⟩), if_pos (.inl (by omega))]
      · rw [if_neg (by omega), if_pos (.inl (by omega)), h j q m, if_neg (by omega)]
    · rw [if_neg (by omega), if_neg (by omega)]
theorem hyb_end {M M' : Nat → Nat → Nat → Bool} {g κ : Nat} (h : Tgt M M' g κ) : hyb M M' 3 0 = M' := by
  funext j q m
  unfold hyb
  by_cases h1 : j ≤ 3
  · rw [if_pos (.inl h1)]
  · rw [if_neg (by omega), h j q m, if_neg (by omega)]
theorem hyb_step {M M' : Nat → Nat → Nat → Bool} {g κ c n : Nat} (h : Tgt M M' g κ) (hc : κ ≤ c) (hc2 : c ≤ 2) (hn : n < 3) :
    setB (hyb M M' c n) (c + 1) (g / 8 ^ (c + 1)) n (any8 fun s => hyb M M' c n c (8 * (g / 8 ^ (c + 1)) + s) n) = hyb M M' c (n + 1) := by
  have e : (any8 fun s => hyb M M' c n c (8 * (g / 8 ^ (c + 1)) + s) n) = M' (c + 1) (g / 8 ^ (c + 1)) n := by
    rw [h (c + 1) (g / 8 ^ (c + 1)) n, if_pos ⟨by omega, by omega, rfl, hn⟩]
    refine any8_congr fun i hi => ?_
    unfold hyb
    rw [if_pos (.inl (Nat.le_refl _))]
    rfl
  rw [e]
  funext j q m
  by_cases h1 : j = c + 1 ∧ q = g / 8 ^ (c + 1) ∧ m = n
  · obtain ⟨rfl, rfl, rfl⟩ := h1
    rw [setB_at]
    unfold hyb
    rw [if_pos (.inr ⟨rfl, by omega⟩)]
  · rw [setB_ne h1]
    unfold hyb
    by_cases h2 : j ≤ c ∨ (j = c + 1 ∧ m < n)
    · rw [if_pos h2, if_pos (by omega)]
    · rw [if_neg h2]
      by_cases h3 : j ≤ c ∨ (j = c + 1 ∧ m < n + 1)
      · have h4 : j = c + 1 := by omega
        subst h4
        rw [if_pos h3, h (c + 1) q m, if_neg (fun ⟨_, _, hq, _⟩ => h1 ⟨rfl, hq, by omega⟩)]
      · rw [if_neg h3]
theorem setB_twice (M : Nat → Nat → Nat → Bool) (k q m : Nat) (u v : Bool) : setB (setB M k q m u) k q m v = setB M k q m v := by
  funext k' q' m'
  unfold setB
  by_cases h : k' = k ∧ q' = q ∧ m' = m
  · rw [if_pos h, if_pos h]
  · rw [if_neg h, if_neg h, if_neg h]
theorem pl_cell {w : World} {vb N cap n : Nat} {l : List Nat} (h : Sq w 61 1 (.slice (some ⟨vb, 0, none⟩) N cap) n (pl l)) {i b : Nat} (hi : l[i]? = some b) : w.cell? ⟨vb, i, none⟩ = some (.pointer (some ⟨b, 0, none⟩)) := by
  rcases h.cases with ⟨e, _⟩ | ⟨vb', cap', e, _, _, _, hc, _⟩
  · cases e
  · injection e with e1 e2 e3
    injection e1 with e1
    injection e1 with e1
    subst e1
    exact hc i _ (by unfold pl; rw [List.getElem?_map, hi]; rfl)
theorem u8pow {s : Nat} (h : s < 8) : IntKind.u8.wrap (2 ^ s) = 2 ^ s := by
  match s, h with
  | 0, _ | 1, _ | 2, _ | 3, _ | 4, _ | 5, _ | 6, _ | 7, _ => rfl
theorem slot_at (g k : Nat) (K : Int) (hg : g < 4096) (hk : k ≤ 3) (hK : K = (k : Nat)) (w : World) : Calls Try.prog 33 #[.int .i64 (g : Nat), .int .i64 K] w fun e w' => e = .returned (.int .i64 ((g / 8 ^ k % 8 : Nat) : Int)) ∧ w = w' := by
  subst hK
  exact slot_any g k hg hk w
set_option maxRecDepth 100000 in
set_option maxHeartbeats 4000000 in
theorem refresh_any (g t κ m vb cap : Nat) (l : List Nat) (σ : St) (M' : Nat → Nat → Nat → Bool) (many nodes : Int) (F : List Nat) (w : World) (hg : g < 4096) (h : Hp w t σ many nodes F) (hA : At σ g κ l) (hmk : m + κ = 3) (hln : l.length = m + 1)
    (hsq : Sq w 61 1 (.slice (some ⟨vb, 0, none⟩) (m + 1) cap) l.length (pl l)) (hvF : vb ∉ F) (hT : Tgt σ.M M' g κ) :
    Calls Try.prog 34 #[.slice (some ⟨vb, 0, none⟩) (m + 1) cap, .int .i64 (g : Nat), .int .i64 (κ : Nat)] w fun e w' => e = .returned (.tuple #[]) ∧ Hp w' t (σ.wM M') many nodes F ∧ Chg F F w w' := by
  have HH := Lib.hid h
  have HX := Lib.hid (And.intro hA (And.intro hsq hvF))
  have HT := Lib.hid hT
  have p0 : IntKind.i64.wrap (((m : Nat) : Int) + 1 - 2) = ((m : Nat) : Int) - 1 := by rw [IntKind.wrap_i64]; omega
  clear h hA hsq hvF hT
  go_enter Try.func34, Try.ntmps34
  go_wp2_with fail
  go_loopw [6] (fun s wr => ∃ j : Nat, j ≤ m ∧ s = .int .i64 (((j : Nat) : Int) - 1) ∧ RowKit.Hid (Hp wr t (σ.wM (hyb σ.M M' (3 - j) 0)) many nodes F ∧ Chg F F w wr)) (fun s _ => (intOf s + 1).toNat)
  case atStart => exact ⟨m, Nat.le_refl _, by simp, Lib.hid ⟨by rw [show 3 - m = κ from by omega, hyb_start HT.out]; exact HH.out, Chg.refl _ _⟩⟩
  case round =>
    obtain ⟨j, hj, rfl, HR⟩ := hrel
    by_cases hj0 : 1 ≤ j
    · obtain ⟨i, rfl⟩ : ∃ i, j = i + 1 := ⟨j - 1, by omega⟩
      have hi3 : i ≤ 2 := by omega
      obtain ⟨c, hc⟩ : ∃ c, 2 - i = c := ⟨_, rfl⟩
      have hN1 := HX.out.1.nd i (by omega)
      have hN2 := HX.out.1.nd (i + 1) (by omega)
      rw [show 3 - i = c + 1 from by omega, show 4 - i = c + 2 from by omega] at hN1
      rw [show 3 - (i + 1) = c from by omega, show 4 - (i + 1) = c + 1 from by omega] at hN2
      rw [show 3 - (i + 1) = c from by omega] at HR
      obtain ⟨b1, hb1⟩ : ∃ b, l[i]? = some b := ⟨_, List.getElem?_eq_getElem (by omega)⟩
      obtain ⟨b2, hb2⟩ : ∃ b, l[i + 1]? = some b := ⟨_, List.getElem?_eq_getElem (by omega)⟩
      rw [hb1] at hN1
      rw [hb2] at hN2
      have HN := Lib.hid (And.intro hN1 (And.intro hN2 (And.intro hb1 hb2)))
      have hcκ : κ ≤ c := by omega
      have hc2 : c ≤ 2 := by omega
      have HS := Lib.hid (fun W => slot_at g (c + 1) (((c : Nat) : Int) + 1) hg (by omega) (by omega) W)
      have hs8 : g / 8 ^ (c + 1) % 8 < 8 := by omega
      have HQ := Lib.hid (show 8 * (g / 8 ^ (c + 2)) + g / 8 ^ (c + 1) % 8 = g / 8 ^ (c + 1) from bel_eq (g := g) (k := c + 1))
      generalize hs : g / 8 ^ (c + 1) % 8 = s at *
      have HSS := Lib.hid hs
      have hci := Lib.hid hc
      clear hN1 hN2 hb1 hb2 hs hc
      rw [show ((i + 1 : Nat) : Int) - 1 = ((i : Nat) : Int) from by omega]
      have p1 : ((κ : Nat) : Int) + (((m : Nat) : Int) + 1) - 1 - ((i : Nat) : Int) = ((c + 1 : Nat) : Int) := by have := hci.out; omega
      go_wp2_with fail
      refine (HS.out _).mono ?_
      rintro e w2 ⟨rfl, rfl⟩
      clear p1
      go_wp2_with fail
      go_loopw [25] (fun s wx => ∃ n : Nat, n ≤ 3 ∧ s = .int .i64 (n : Nat) ∧ RowKit.Hid (Hp wx t (σ.wM (hyb σ.M M' c n)) many nodes F ∧ Chg F F w wx)) (fun s _ => 3 - (intOf s).toNat)
      case atStart => exact ⟨0, by omega, rfl, HR⟩
      case round =>
        obtain ⟨n, hn, rfl, HI⟩ := hrel
        clear HR
        by_cases hn3 : n < 3
        · have hnI : ((n : Nat) : Int) < 3 := by omega
          go_upto_region 7 with fail
          have hsq := HX.out.2.1.chg HI.out.2 (fun b hb hm => by simp [vblk_some] at hb; subst hb; exact HX.out.2.2 hm)
          have hc1 := pl_cell hsq HN.out.2.2.1
          have hc2' := pl_cell hsq HN.out.2.2.2
          have hmc := HI.out.1.mcell (k := c + 1) HN.out.1 hn3
          have hcl := byt_clear (fun s => (σ.wM (hyb σ.M M' c n)).M (c + 1) (8 * (g / 8 ^ (c + 2)) + s) n) hs8
          have HB := Lib.hid (And.intro (HI.out.1.bit (k := c + 1) HN.out.1 hn3 hs8 false).1.drew (HI.out.1.bit (k := c + 1) HN.out.1 hn3 hs8 false).2.drew)
          have hfz : ∀ j, wr.frozen? ⟨b1, j, none⟩ = false := nodeO_free (HI.out.1.nd _ _ _ HN.out.1).1
          have hy := byt_range (fun s => (σ.wM (hyb σ.M M' c n)).M (c + 1) (8 * (g / 8 ^ (c + 2)) + s) n)
          generalize hyE : byt (fun s => (σ.wM (hyb σ.M M' c n)).M (c + 1) (8 * (g / 8 ^ (c + 2)) + s) n) = y at *
          generalize hy1E : byt (put (fun s => (σ.wM (hyb σ.M M' c n)).M (c + 1) (8 * (g / 8 ^ (c + 2)) + s) n) s false) = y1 at *
          clear hyE
          have HY1 := Lib.hid hy1E
          clear hy1E
          have p2 : IntKind.u8.wrap (2 ^ s) = 2 ^ s := u8pow hs8
          have p3 : ((i : Nat) : Int) < ((m : Nat) : Int) + 1 := by omega
          have p4 : ((i : Nat) : Int) + 1 < ((m : Nat) : Int) + 1 := by omega
          have p5 : ((s : Nat) : Int) < 8 := by omega
          go_still_tail 15, (by kernel_rfl)
          change wpList _ _ _ _ _ (World.drew _)
          have hmc' : wr.drew.cell? ⟨b1, 16 + n, none⟩ = some (.int .u8 y) := hmc
          have hfz' : ∀ j, wr.drew.frozen? ⟨b1, j, none⟩ = false := hfz
          have hcc := HB.out.2
          have hsq1 := hsq.chg hcc (fun b hb hm => by simp [vblk_some] at hb; subst hb; exact HX.out.2.2 hm)
          have HSQ1 := Lib.hid hsq1
          clear hcc hsq hsq1
          go_upto_region 8 with fail
          clear hmc hmc' hfz hfz' hc1 hc2' hcl
          generalize (wr.setCell ⟨b1, 16 + n, none⟩ (.int .u8 y1)).drew = w1 at *
          have hc1 := pl_cell HSQ1.out HN.out.2.2.1
          have hc2' := pl_cell HSQ1.out HN.out.2.2.2
          have hm2 := HB.out.1.mcell (k := c) HN.out.2.1 hn3
          have e2 : (byt fun s' => ({ N := (σ.wM (hyb σ.M M' c n)).N, E := (σ.wM (hyb σ.M M' c n)).E, V := (σ.wM (hyb σ.M M' c n)).V, M := setB (σ.wM (hyb σ.M M' c n)).M (c + 1) (8 * (g / 8 ^ (c + 2)) + s) n false } : St).M c (8 * (g / 8 ^ (c + 1)) + s') n) = byt fun s' => hyb σ.M M' c n c (8 * (g / 8 ^ (c + 1)) + s') n :=
            byt_congr fun s' _ => setB_ne (fun h => by have := h.1; omega)
          rw [e2] at hm2
          clear e2
          have HE := Lib.hid (hyb_step HT.out hcκ hc2 hn3)
          cases hany : any8 (fun s' => hyb σ.M M' c n c (8 * (g / 8 ^ (c + 1)) + s') n) with
          | false =>
            rw [byt_zero.2 hany] at hm2
            rw [hany] at HE
            clear hany HY1
            go_wp2_with fail
            exact ⟨⟨n + 1, by omega, by simp, Lib.hid ⟨by have := HB.out.1; rw [HQ.out] at this; have e := HE.out; exact (show St.wM σ (hyb σ.M M' c (n + 1)) = _ from by rw [← e]) ▸ this, HI.out.2.trans HB.out.2⟩⟩, by simp [intOf]; omega⟩
          | true =>
            have hne : ¬ ((byt fun s' => hyb σ.M M' c n c (8 * (g / 8 ^ (c + 1)) + s') n) = 0) := fun h => by rw [byt_zero.1 h] at hany; cases hany
            rw [hany] at HE
            have hm1 := HB.out.1.mcell (k := c + 1) HN.out.1 hn3
            have HB2 := Lib.hid (And.intro (HB.out.1.bit (k := c + 1) HN.out.1 hn3 hs8 true).1.drew (HB.out.1.bit (k := c + 1) HN.out.1 hn3 hs8 true).2.drew)
            have hor := byt_set (fun s_1 => ({ N := (σ.wM (hyb σ.M M' c n)).N, E := (σ.wM (hyb σ.M M' c n)).E, V := (σ.wM (hyb σ.M M' c n)).V, M := setB (σ.wM (hyb σ.M M' c n)).M (c + 1) (8 * (g / 8 ^ (c + 2)) + s) n false } : St).M (c + 1) (8 * (g / 8 ^ (c + 2)) + s_1) n) hs8
            have hfz1 : ∀ j, w1.frozen? ⟨b1, j, none⟩ = false := nodeO_free (HB.out.1.nd _ _ _ HN.out.1).1
            generalize (byt fun s' => hyb σ.M M' c n c (8 * (g / 8 ^ (c + 1)) + s') n) = y2 at *
            generalize (byt fun s_1 => ({ N := (σ.wM (hyb σ.M M' c n)).N, E := (σ.wM (hyb σ.M M' c n)).E, V := (σ.wM (hyb σ.M M' c n)).V, M := setB (σ.wM (hyb σ.M M' c n)).M (c + 1) (8 * (g / 8 ^ (c + 2)) + s) n false } : St).M (c + 1) (8 * (g / 8 ^ (c + 2)) + s_1) n) = y3 at *
            generalize hy4 : byt (put (fun s_1 => ({ N := (σ.wM (hyb σ.M M' c n)).N, E := (σ.wM (hyb σ.M M' c n)).E, V := (σ.wM (hyb σ.M M' c n)).V, M := setB (σ.wM (hyb σ.M M' c n)).M (c + 1) (8 * (g / 8 ^ (c + 2)) + s) n false } : St).M (c + 1) (8 * (g / 8 ^ (c + 2)) + s_1) n) s true) = y4 at *
            clear hany HY1 hy4
            go_upto_region 9 with fail
            go_still_tail 15, (by kernel_rfl)
            change wpList _ _ _ _ _ (World.drew _)
            have hm1' : w1.drew.cell? ⟨b1, 16 + n, none⟩ = some (.int .u8 y3) := hm1
            have hfz1' : ∀ j, w1.drew.frozen? ⟨b1, j, none⟩ = false := hfz1
            go_wp2_with fail
            exact ⟨⟨n + 1, by omega, by simp, Lib.hid ⟨by have := HB2.out.1; rw [HQ.out] at this; have e := HE.out; exact (show St.wM σ (hyb σ.M M' c (n + 1)) = _ from by rw [← e, ← setB_twice _ _ _ _ false true]) ▸ this, (HI.out.2.trans HB.out.2).trans HB2.out.2⟩⟩, by simp [intOf]; omega⟩
        · obtain rfl : n = 3 := by omega
          go_wp2_with fail
          exact ⟨⟨i, by omega, rfl, Lib.hid ⟨by have := HI.out.1; rw [hyb_next HT.out, show c + 1 = 3 - i from by have := hci.out; omega] at this; exact this, HI.out.2⟩⟩, by simp [intOf]⟩
    · obtain rfl : j = 0 := by omega
      go_wp2_with fail
      go_end0
      exact ⟨rfl, by have := HR.out.1; rw [hyb_end HT.out] at this; exact this, HR.out.2⟩

end Go.Proofs.Ytdnnfoojdfmajaa
