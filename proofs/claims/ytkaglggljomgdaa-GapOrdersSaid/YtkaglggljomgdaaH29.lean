/- Parts of the proofs of layer 18 (gap): contracts of its functions, and the laws' walks. -/
import Derived.Test.YtkaglggljomgdaaProg
import Derived.WalkKit
import Derived.WalkSpells
import Derived.WalkLawsBesides
import Derived.BigQuiet
import Derived.Deep.QuietTactic
import Derived.Lib.Hide
import Derived.Deep.RegionHeld3
import Derived.Deep.DeepCutAuto
import Derived.KernelRfl
import Derived.Deep.OwnRows
import Derived.Laws.CopyOwn
import Derived.Laws.CopyRow
import Derived.StillTailTactics
import Derived.Deep.RegionLaw
import Derived.Test.YtkaglggljomgdaaH28
import Derived.OwnWalk
namespace Go.Proofs.Ytkaglggljomgdaa
open Go.RowKit
set_option linter.unusedVariables false
set_option linter.unusedSimpArgs false

/-- The program's tree with S, the reference's with L, apart; nothing older than C is touched since w0. -/
def Mk (w0 wX : World) (g : Nat) (F : List Nat) (S : List (Int × Int)) (g2 : Nat) (F2 : List Nat) (L : List (Int × Int)) : Prop := Gt wX g F S ∧ Rt wX g2 F2 L ∧ Sep F F2 ∧ (∀ b ∈ F, w0.heap.size ≤ b) ∧ Below w0.heap.size w0 wX
theorem Mk.chg {w0 wX wY : World} {g g2 : Nat} {F F' F2 : List Nat} {S S' L : List (Int × Int)} (m : Mk w0 wX g F S g2 F2 L) (hc : Chg F F' wX wY) (hk : Gt wY g F' S') : Mk w0 wY g F' S' g2 F2 L := by
  obtain ⟨m1, m2, m3, m4, m5⟩ := m
  exact ⟨hk, m2.chg hc m3.symm, hc.sep m3 m2.lt, hc.ge m4 m5.size, m5.trans (hc.below m4 m5.size)⟩
theorem Mk.below {w0 wX wY : World} {g g2 : Nat} {F F2 : List Nat} {S L : List (Int × Int)} (m : Mk w0 wX g F S g2 F2 L) (hb : Below wX.heap.size wX wY) : Mk w0 wY g F S g2 F2 L := by
  obtain ⟨m1, m2, m3, m4, m5⟩ := m
  exact ⟨m1.below hb, m2.below hb, m3, m4, m5.trans (hb.mono m5.size)⟩
theorem Mk.drew {w0 wX : World} {g g2 : Nat} {F F2 : List Nat} {S L : List (Int × Int)} (m : Mk w0 wX g F S g2 F2 L) : Mk w0 wX.drew g F S g2 F2 L := m.below (below_drew (Below.refl _ _))
theorem Mk.out2 {w0 wX : World} {g g2 : Nat} {F F2 : List Nat} {S L : List (Int × Int)} (m : Mk w0 wX g F S g2 F2 L) : g2 ∉ F := fun h => m.2.2.1 g2 h (by obtain ⟨v, _, _, e, _⟩ := m.2.1; rw [e]; simp)
/-- A Put that is refused changes nothing. -/
theorem Put_bad (x y : Int) (g : Nat) (F : List Nat) (L : List (Int × Int)) (w : World) (h : Gt w g F L) (hb : ¬ putE x y L = 0) :
    Calls Try.prog 16 #[.pointer (some ⟨g, 0, none⟩), .int .i64 x, .int .i64 y] w fun e w' => e = .returned (.int .i64 (putE x y L)) ∧ w = w' := by
  obtain ⟨t, ht, hgd, rfl⟩ := h
  have HW := Lib.hid (wrong_any ⟨g, 0, none⟩ x y w)
  by_cases hw : wrg x y = 0
  · obtain ⟨hx, hxy, hy⟩ := wrg_ok.1 hw
    have hmt := meetT_find t x y hxy _ _ hgd.1
    obtain ⟨v, F', hg, hn, rfl, h1⟩ := ht
    cases hf : fm x y (tlist t) with
    | none => exact absurd (show putE x y (tlist t) = 0 from by unfold putE; rw [if_neg (by simp [hw]), hf]; rfl) hb
    | some e =>
      have HE := Lib.hid (show putE x y (tlist t) = 7 from by unfold putE; rw [if_neg (by simp [hw]), hf]; rfl)
      have HH := Lib.hid (meets_any g x y t v F' w hg hn)
      rw [hmt, hf] at HH
      rw [hw] at HW
      clear hmt hf hw hg hn hgd hb
      go_enter Try.func16, Try.ntmps16
      go_wp2_with fail
      refine HW.out.mono ?_
      rintro ex w1 ⟨rfl, rfl⟩
      go_wp2_with fail
      refine HH.out.mono ?_
      rintro ex w1 ⟨u, rfl, rfl, k, _, _, _, _, _, _, _, rfl, _⟩
      go_wp2_with fail
      go_ret
      exact ⟨by rw [HE.out]; rfl, rfl⟩
  · have HE := Lib.hid (show putE x y (tlist t) = wrg x y from by unfold putE; rw [if_pos hw])
    have hw2 : (wrg x y != 0) = true := by rw [bne_iff_ne]; exact hw
    clear hgd ht hb
    generalize wrg x y = q at *
    go_enter Try.func16, Try.ntmps16
    go_wp2_with fail
    refine HW.out.mono ?_
    rintro ex w1 ⟨rfl, rfl⟩
    go_wp2_with fail
    go_ret
    exact ⟨by rw [HE.out]; rfl, rfl⟩
set_option maxRecDepth 100000 in
set_option maxHeartbeats 8000000 in
theorem back_law (ao : Option Addr) (len cap : Nat) (z : Nat → Nat → Int) (x y : Int) (w : World) (hlc : len ≤ cap) (hcm : cap ≤ maxLen) (hA : Acts w ao len z) : Calls Try.prog 8 #[.slice ao len cap, .int .i64 x, .int .i64 y] w fun e w' => e = .returned (.bool true) ∧ Below w.heap.size w w' := by
  have HM0 := Lib.hid (made_any ao len cap z w hlc hcm hA)
  clear hA
  go_enter Try.func8, Try.ntmps8
  go_wp2_with fail
  refine HM0.out.mono ?_
  rintro e w1 ⟨g, g2, F1, F2, L, rfl, hm1, hb1⟩
  have HK := Lib.hid hm1.2
  have HB1 := Lib.hid hb1
  have HM1 := Lib.hid hm1.1
  clear hm1 hb1 HM0
  go_wp2_with fail
  refine (awake_any w1).mono ?_
  rintro e w2 ⟨rfl, hb2⟩
  have HM2 := Lib.hid (HM1.out.below hb2)
  have HB2 := Lib.hid (HB1.out.trans (hb2.mono HB1.out.size))
  have HRG := Lib.hid HM2.out.1.rg
  have HLN := Lib.hid (show L.length ≤ 5000 from by have := HM2.out.len; omega)
  clear hb2 HM1 HB1
  have HK2 : RowKit.Hid (Mk w w2 g F1 L g2 F2 L) := Lib.hid ⟨HM2.out.1, HM2.out.2.1, HM2.out.2.2, fun b hb => HK.out b (List.mem_append_left _ hb), HB2.out⟩
  obtain ⟨aL, cL, kL, hT⟩ := HM2.out.2.1.cells
  clear hT HM2 HB2 HK
  by_cases hp : putE x y L = 0
  · have hwo := wrg_ok.1 (show wrg x y = 0 from by unfold putE at hp; by_cases h : wrg x y = 0; exact h; rw [if_pos h] at hp; exact hp)
    have hpl : putL x y L = ins x y L := if_pos hp
    have hfm : fm x y L = none := by
      have hp2 := hp
      unfold putE at hp2
      rw [if_neg (by simp; exact wrg_ok.2 hwo)] at hp2
      cases hf : fm x y L with
      | none => rfl
      | some e => rw [hf] at hp2; cases hp2
    have hne : ∀ e ∈ L, e.1 ≠ x := fun e he h1 => fm_none_iff.1 hfm e he ⟨by omega, by have := HRG.out.mem e he; omega⟩
    have hd0 : delE x y (putL x y L) = 0 := by
      unfold delE
      rw [if_neg (by simp; exact wrg_ok.2 hwo), if_pos (by rw [hpl]; exact ins_mem.2 (.inl rfl))]
    have HDD := Lib.hid (And.intro hp (And.intro hd0 (show delL x y (putL x y L) = L from by unfold delL; rw [if_pos hd0, hpl, rem_ins hne])))
    clear hwo hpl hfm hne hd0 hp
    go_upto_region 4 with fail
    go_region_held3 (fun w' => w'.cell? ⟨g2, 0, none⟩ = some (.slice aL L.length cL)) (first | exact cell_keep hba (by assumption) | exact hcb.cell (by assumption) mo | exact hca.cell (by assumption) HK2.out.out2 | go_keep) (first
      | (go_at_call 16; refine (Put_any x y g F1 L _ HK2.out.drew.1).mono ?_; rintro e wa ⟨rfl, FA0, hca, hka⟩; rw [HDD.out.1]; have ma := HK2.out.drew.chg hca hka; have mo := ma.out2)
      | (go_at_call 26; refine (Del_any x y g FA0 _ _ ma.1).mono ?_; rintro e wb ⟨rfl, FA, hcb, hkb⟩; rw [HDD.out.2.1]; rw [HDD.out.2.2] at hkb; have mb := ma.chg hcb hkb)
      | (go_at_call 22; refine (All_any g FA L _ mb.1).mono ?_; rintro e wc ⟨v1, rfl, hv1, hcc⟩; have hba := hcc.below (C := wb.heap.size) (fun b hb => by simp at hb) (Nat.le_refl _); have mc := mb.below hba)
      | (go_at_call 21; refine (Same_any v1 _ L L _ hv1 (mc.2.1.told (by assumption)) HLN.out).mono ?_; rintro e _ ⟨rfl, kk, rfl⟩; rw [dec_self]))
    have HA := Lib.hid (mc.below (below_drewN (Below.refl _ _) kk))
    clear hca hka hcb hkb hv1 hcc hba ma mb mc mo
    generalize wc.drewN kk = w3 at *
    go_wp2_with fail
    refine (Cut_any x y g FA L w3 HA.out.1).mono ?_
    rintro e w5 ⟨rfl, FC, hcc, hkc⟩
    have HC5 := Lib.hid (HA.out.chg hcc hkc)
    clear hcc hkc HA
    by_cases hw : wrg x y = 0
    · rw [hw]
      have hwo := wrg_ok.1 hw
      have HCU := Lib.hid (show cutL x y L = cuts x y L from if_pos hw)
      rw [HCU.out] at HC5
      have HNO := Lib.hid (cuts_no HRG.out hwo.2.1)
      have HP0 := Lib.hid (show putE x y (cuts x y L) = 0 from by unfold putE; rw [if_neg (by simp [hw]), fm_none HNO.out]; rfl)
      generalize cuts x y L = C at *
      clear hw
      go_wp2_with fail
      go_loopw [10, 11, 12, 13] (fun s _ _ _ wr => ∃ p : Int, x ≤ p ∧ p ≤ y ∧ s = .int .i64 p ∧ RowKit.Hid (Mk w wr g FC C g2 F2 L)) (fun s _ _ _ _ => (y - intOf s).toNat)
      case atStart => exact ⟨x, Int.le_refl _, by omega, rfl, HC5⟩
      case round =>
        obtain ⟨p, hp1, hp2, rfl, HI⟩ := hrel
        have hwp : IntKind.i64.wrap (p - x) = p - x := by rw [IntKind.wrap_i64]; omega
        have hwp1 : IntKind.i64.wrap (p + 1) = p + 1 := by rw [IntKind.wrap_i64]; omega
        by_cases hpy : p < y
        · by_cases hpx : p - x < 40
          · have HF := Lib.hid (find_free (p := p) (L := C) fun e he hh => HNO.out e he ⟨by omega, by omega⟩)
            go_wp2_with fail
            refine (Find_any p g FC C wr HI.out.1).mono ?_
            rintro e w7 ⟨rfl, hb7⟩
            rw [HF.out]
            have HI7 := Lib.hid (HI.out.below hb7)
            clear hb7 HI
            go_wp2_with fail
            exact ⟨⟨p + 1, by omega, by omega, rfl, HI7⟩, by simp [intOf]; omega⟩
          · go_wp2_with fail
            refine (Put_any x y g FC C wr HI.out.1).mono ?_
            rintro e w7 ⟨rfl, F7, hc7, hk7⟩
            rw [HP0.out]
            have HI7 := Lib.hid (HI.out.chg hc7 hk7)
            clear hc7 hk7
            go_wp2_with fail
            go_ret
            exact ⟨rfl, HI7.out.2.2.2.2⟩
        · go_wp2_with fail
          refine (Put_any x y g FC C wr HI.out.1).mono ?_
          rintro e w7 ⟨rfl, F7, hc7, hk7⟩
          rw [HP0.out]
          have HI7 := Lib.hid (HI.out.chg hc7 hk7)
          clear hc7 hk7
          go_wp2_with fail
          go_ret
          exact ⟨rfl, HI7.out.2.2.2.2⟩
    · have HCU := Lib.hid (show cutL x y L = L from if_neg hw)
      rw [HCU.out] at HC5
      have hw2 : (wrg x y != 0) = true := by rw [bne_iff_ne]; exact hw
      generalize wrg x y = q at *
      obtain ⟨aL, cL, kL, hT⟩ := HC5.out.2.1.cells
      have HTT := Lib.hid hT
      clear hT
      go_upto_region 7 with fail
      go_region_held3 (fun w' => w'.cell? ⟨g2, 0, none⟩ = some (.slice aL L.length cL)) (first | exact cell_keep hba (by assumption) | go_keep) (first
        | (go_at_call 22; refine (All_any g FC L _ HC5.out.1.drew).mono ?_; rintro e wa ⟨v1, rfl, hv1, hca⟩; have hba := hca.below (C := w5.drew.heap.size) (fun b hb => by simp at hb) (Nat.le_refl _))
        | (go_at_call 21; refine (Same_any v1 _ L L _ hv1 (Told.below (show Told w5.drew _ L from HTT.out) hba) HLN.out).mono ?_; rintro e _ ⟨rfl, kk, rfl⟩; rw [dec_self]))
      go_wp2_with fail
      go_ret
      exact ⟨rfl, below_drewN (HC5.out.2.2.2.2.trans ((below_undrew hba).mono HC5.out.2.2.2.2.size)) kk⟩
  
  · have HPL := Lib.hid (show putL x y L = L from if_neg hp)
    have h37 : putE x y L = 3 ∨ putE x y L = 7 := by
      unfold putE wrg at *
      by_cases h : x < 1 ∨ 4096 < y ∨ y ≤ x
      · rw [if_pos h]; exact .inl (by simp)
      · rw [if_neg h] at hp ⊢
        cases hf : fm x y L with
        | none => rw [hf] at hp; simp at hp
        | some e => exact .inr (by simp)
    rcases h37 with h37 | h37
    · have HPB := Lib.hid (fun k => by have := Put_bad x y g F1 L (w2.drewN k) (HK2.out.1.drewN k) hp; rw [h37] at this; exact this.mono fun _ _ h => (⟨h.1, h.2.symm⟩ : _ ∧ _))
      clear h37 hp
      go_upto_region 4 with fail
      go_quiet ((go_at_call 16; exact Calls.quiet_of_same (HPB.out _)))
      have ma := HK2.out.below (below_drewN (Below.refl _ _) nq)
      obtain ⟨FA, hFA⟩ : ∃ FA, F1 = FA := ⟨_, rfl⟩
      have HA := Lib.hid ma
      clear ma
      generalize w2.drewN nq = w3 at *
      rw [hFA] at HA
      go_wp2_with fail
      refine (Cut_any x y g FA L w3 HA.out.1).mono ?_
      rintro e w5 ⟨rfl, FC, hcc, hkc⟩
      have HC5 := Lib.hid (HA.out.chg hcc hkc)
      clear hcc hkc HA
      by_cases hw : wrg x y = 0
      · rw [hw]
        have hwo := wrg_ok.1 hw
        have HCU := Lib.hid (show cutL x y L = cuts x y L from if_pos hw)
        rw [HCU.out] at HC5
        have HNO := Lib.hid (cuts_no HRG.out hwo.2.1)
        have HP0 := Lib.hid (show putE x y (cuts x y L) = 0 from by unfold putE; rw [if_neg (by simp [hw]), fm_none HNO.out]; rfl)
        generalize cuts x y L = C at *
        clear hw
        go_wp2_with fail
        go_loopw [10, 11, 12, 13] (fun s _ _ _ wr => ∃ p : Int, x ≤ p ∧ p ≤ y ∧ s = .int .i64 p ∧ RowKit.Hid (Mk w wr g FC C g2 F2 L)) (fun s _ _ _ _ => (y - intOf s).toNat)
        case atStart => exact ⟨x, Int.le_refl _, by omega, rfl, HC5⟩
        case round =>
          obtain ⟨p, hp1, hp2, rfl, HI⟩ := hrel
          have hwp : IntKind.i64.wrap (p - x) = p - x := by rw [IntKind.wrap_i64]; omega
          have hwp1 : IntKind.i64.wrap (p + 1) = p + 1 := by rw [IntKind.wrap_i64]; omega
          by_cases hpy : p < y
          · by_cases hpx : p - x < 40
            · have HF := Lib.hid (find_free (p := p) (L := C) fun e he hh => HNO.out e he ⟨by omega, by omega⟩)
              go_wp2_with fail
              refine (Find_any p g FC C wr HI.out.1).mono ?_
              rintro e w7 ⟨rfl, hb7⟩
              rw [HF.out]
              have HI7 := Lib.hid (HI.out.below hb7)
              clear hb7 HI
              go_wp2_with fail
              exact ⟨⟨p + 1, by omega, by omega, rfl, HI7⟩, by simp [intOf]; omega⟩
            · go_wp2_with fail
              refine (Put_any x y g FC C wr HI.out.1).mono ?_
              rintro e w7 ⟨rfl, F7, hc7, hk7⟩
              rw [HP0.out]
              have HI7 := Lib.hid (HI.out.chg hc7 hk7)
              clear hc7 hk7
              go_wp2_with fail
              go_ret
              exact ⟨rfl, HI7.out.2.2.2.2⟩
          · go_wp2_with fail
            refine (Put_any x y g FC C wr HI.out.1).mono ?_
            rintro e w7 ⟨rfl, F7, hc7, hk7⟩
            rw [HP0.out]
            have HI7 := Lib.hid (HI.out.chg hc7 hk7)
            clear hc7 hk7
            go_wp2_with fail
            go_ret
            exact ⟨rfl, HI7.out.2.2.2.2⟩
      · have HCU := Lib.hid (show cutL x y L = L from if_neg hw)
        rw [HCU.out] at HC5
        have hw2 : (wrg x y != 0) = true := by rw [bne_iff_ne]; exact hw
        generalize wrg x y = q at *
        obtain ⟨aL, cL, kL, hT⟩ := HC5.out.2.1.cells
        have HTT := Lib.hid hT
        clear hT
        go_upto_region 7 with fail
        go_region_held3 (fun w' => w'.cell? ⟨g2, 0, none⟩ = some (.slice aL L.length cL)) (first | exact cell_keep hba (by assumption) | go_keep) (first
          | (go_at_call 22; refine (All_any g FC L _ HC5.out.1.drew).mono ?_; rintro e wa ⟨v1, rfl, hv1, hca⟩; have hba := hca.below (C := w5.drew.heap.size) (fun b hb => by simp at hb) (Nat.le_refl _))
          | (go_at_call 21; refine (Same_any v1 _ L L _ hv1 (Told.below (show Told w5.drew _ L from HTT.out) hba) HLN.out).mono ?_; rintro e _ ⟨rfl, kk, rfl⟩; rw [dec_self]))
        go_wp2_with fail
        go_ret
        exact ⟨rfl, below_drewN (HC5.out.2.2.2.2.trans ((below_undrew hba).mono HC5.out.2.2.2.2.size)) kk⟩
  
    · have HPB := Lib.hid (fun k => by have := Put_bad x y g F1 L (w2.drewN k) (HK2.out.1.drewN k) hp; rw [h37] at this; exact this.mono fun _ _ h => (⟨h.1, h.2.symm⟩ : _ ∧ _))
      clear h37 hp
      go_upto_region 4 with fail
      go_quiet ((go_at_call 16; exact Calls.quiet_of_same (HPB.out _)))
      have ma := HK2.out.below (below_drewN (Below.refl _ _) nq)
      obtain ⟨FA, hFA⟩ : ∃ FA, F1 = FA := ⟨_, rfl⟩
      have HA := Lib.hid ma
      clear ma
      generalize w2.drewN nq = w3 at *
      rw [hFA] at HA
      go_wp2_with fail
      refine (Cut_any x y g FA L w3 HA.out.1).mono ?_
      rintro e w5 ⟨rfl, FC, hcc, hkc⟩
      have HC5 := Lib.hid (HA.out.chg hcc hkc)
      clear hcc hkc HA
      by_cases hw : wrg x y = 0
      · rw [hw]
        have hwo := wrg_ok.1 hw
        have HCU := Lib.hid (show cutL x y L = cuts x y L from if_pos hw)
        rw [HCU.out] at HC5
        have HNO := Lib.hid (cuts_no HRG.out hwo.2.1)
        have HP0 := Lib.hid (show putE x y (cuts x y L) = 0 from by unfold putE; rw [if_neg (by simp [hw]), fm_none HNO.out]; rfl)
        generalize cuts x y L = C at *
        clear hw
        go_wp2_with fail
        go_loopw [10, 11, 12, 13] (fun s _ _ _ wr => ∃ p : Int, x ≤ p ∧ p ≤ y ∧ s = .int .i64 p ∧ RowKit.Hid (Mk w wr g FC C g2 F2 L)) (fun s _ _ _ _ => (y - intOf s).toNat)
        case atStart => exact ⟨x, Int.le_refl _, by omega, rfl, HC5⟩
        case round =>
          obtain ⟨p, hp1, hp2, rfl, HI⟩ := hrel
          have hwp : IntKind.i64.wrap (p - x) = p - x := by rw [IntKind.wrap_i64]; omega
          have hwp1 : IntKind.i64.wrap (p + 1) = p + 1 := by rw [IntKind.wrap_i64]; omega
          by_cases hpy : p < y
          · by_cases hpx : p - x < 40
            · have HF := Lib.hid (find_free (p := p) (L := C) fun e he hh => HNO.out e he ⟨by omega, by omega⟩)
              go_wp2_with fail
              refine (Find_any p g FC C wr HI.out.1).mono ?_
              rintro e w7 ⟨rfl, hb7⟩
              rw [HF.out]
              have HI7 := Lib.hid (HI.out.below hb7)
              clear hb7 HI
              go_wp2_with fail
              exact ⟨⟨p + 1, by omega, by omega, rfl, HI7⟩, by simp [intOf]; omega⟩
            · go_wp2_with fail
              refine (Put_any x y g FC C wr HI.out.1).mono ?_
              rintro e w7 ⟨rfl, F7, hc7, hk7⟩
              rw [HP0.out]
              have HI7 := Lib.hid (HI.out.chg hc7 hk7)
              clear hc7 hk7
              go_wp2_with fail
              go_ret
              exact ⟨rfl, HI7.out.2.2.2.2⟩
          · go_wp2_with fail
            refine (Put_any x y g FC C wr HI.out.1).mono ?_
            rintro e w7 ⟨rfl, F7, hc7, hk7⟩
            rw [HP0.out]
            have HI7 := Lib.hid (HI.out.chg hc7 hk7)
            clear hc7 hk7
            go_wp2_with fail
            go_ret
            exact ⟨rfl, HI7.out.2.2.2.2⟩
      · have HCU := Lib.hid (show cutL x y L = L from if_neg hw)
        rw [HCU.out] at HC5
        have hw2 : (wrg x y != 0) = true := by rw [bne_iff_ne]; exact hw
        generalize wrg x y = q at *
        obtain ⟨aL, cL, kL, hT⟩ := HC5.out.2.1.cells
        have HTT := Lib.hid hT
        clear hT
        go_upto_region 7 with fail
        go_region_held3 (fun w' => w'.cell? ⟨g2, 0, none⟩ = some (.slice aL L.length cL)) (first | exact cell_keep hba (by assumption) | go_keep) (first
          | (go_at_call 22; refine (All_any g FC L _ HC5.out.1.drew).mono ?_; rintro e wa ⟨v1, rfl, hv1, hca⟩; have hba := hca.below (C := w5.drew.heap.size) (fun b hb => by simp at hb) (Nat.le_refl _))
          | (go_at_call 21; refine (Same_any v1 _ L L _ hv1 (Told.below (show Told w5.drew _ L from HTT.out) hba) HLN.out).mono ?_; rintro e _ ⟨rfl, kk, rfl⟩; rw [dec_self]))
        go_wp2_with fail
        go_ret
        exact ⟨rfl, below_drewN (HC5.out.2.2.2.2.trans ((below_undrew hba).mono HC5.out.2.2.2.2.size)) kk⟩

end Go.Proofs.Ytkaglggljomgdaa
