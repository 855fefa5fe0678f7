/- Parts of the proofs of layer 19 (radix): contracts of its functions, and the laws' walks. -/
import Derived.Test.YtdnnfoojdfmajaaProg
import Derived.WalkKit
import Derived.WalkSpells
import Derived.WalkLawsBesides
import Derived.BigQuiet
import Derived.Deep.QuietTactic
import Derived.Lib.Hide
import Derived.Deep.RegionHeld3
import Derived.Deep.DeepCutAuto
import Derived.KernelRfl
import Derived.Deep.OwnRows
import Derived.Laws.CopyOwn
import Derived.Laws.CopyRow
import Derived.StillTailTactics
import Derived.Deep.RegionLaw
import Derived.Handy
import Derived.Deep.CutRange
import Derived.Deep.CutBlock
import Derived.Test.YtdnnfoojdfmajaaX11
namespace Go.Proofs.Ytdnnfoojdfmajaa
open Go.RowKit
set_option linter.unusedVariables false
set_option linter.unusedSimpArgs false

def clr (M : Nat → Nat → Nat → Bool) (k q n : Nat) : Nat → Nat → Nat → Bool := fun k' q' m => if k' = k ∧ q' = q ∧ m < n then false else M k' q' m
theorem clr_zero (M : Nat → Nat → Nat → Bool) (k q : Nat) : clr M k q 0 = M := by
  funext k' q' m
  exact if_neg (by omega)
theorem clr_step (M : Nat → Nat → Nat → Bool) (k q n : Nat) : setB (clr M k q n) k q n false = clr M k q (n + 1) := by
  funext k' q' m
  unfold setB clr
  by_cases h1 : k' = k ∧ q' = q
  · by_cases h2 : m = n
    · rw [if_pos ⟨h1.1, h1.2, h2⟩, if_pos ⟨h1.1, h1.2, by omega⟩]
    · rw [if_neg (fun h => h2 h.2.2)]
      by_cases h3 : m < n
      · rw [if_pos ⟨h1.1, h1.2, h3⟩, if_pos ⟨h1.1, h1.2, by omega⟩]
      · rw [if_neg (fun h => h3 h.2.2), if_neg (fun h => h3 (by have := h.2.2; omega))]
  · rw [if_neg (fun h => h1 ⟨h.1, h.2.1⟩), if_neg (fun h => h1 ⟨h.1, h.2.1⟩), if_neg (fun h => h1 ⟨h.1, h.2.1⟩)]
def St.noE (σ : St) (k q : Nat) : St := {σ with E := setO σ.E k q none}
/-- The levels from κ on below c are off, on a page's path. -/
def St.rem (σ : St) (g κ c : Nat) : St := {σ with N := fun k p => if κ ≤ k ∧ k < c ∧ p = g / 8 ^ (k + 1) then none else σ.N k p}
theorem rem_start (σ : St) (g κ : Nat) : σ.rem g κ κ = σ := by
  unfold St.rem
  have : (fun k p => if κ ≤ k ∧ k < κ ∧ p = g / 8 ^ (k + 1) then none else σ.N k p) = σ.N := by
    funext k p
    exact if_neg (by omega)
  rw [this]
theorem rem_step (σ : St) (g κ c : Nat) (h : κ ≤ c) : ({σ.rem g κ c with N := setO (σ.rem g κ c).N c (g / 8 ^ (c + 1)) none} : St) = σ.rem g κ (c + 1) := by
  have e : setO (σ.rem g κ c).N c (g / 8 ^ (c + 1)) none = (σ.rem g κ (c + 1)).N := by
   funext k p
   show setO (fun k p => if κ ≤ k ∧ k < c ∧ p = g / 8 ^ (k + 1) then none else σ.N k p) c (g / 8 ^ (c + 1)) none k p = (if κ ≤ k ∧ k < c + 1 ∧ p = g / 8 ^ (k + 1) then none else σ.N k p)
   unfold setO
   by_cases h1 : k = c ∧ p = g / 8 ^ (c + 1)
   · obtain ⟨rfl, rfl⟩ := h1
     rw [if_pos ⟨rfl, rfl⟩, if_pos ⟨h, by omega, rfl⟩]
   · rw [if_neg h1]
     show (if κ ≤ k ∧ k < c ∧ p = g / 8 ^ (k + 1) then none else σ.N k p) = _
     by_cases h2 : κ ≤ k ∧ k < c ∧ p = g / 8 ^ (k + 1)
     · rw [if_pos h2, if_pos ⟨h2.1, by omega, h2.2.2⟩]
     · rw [if_neg h2]
       by_cases h3 : κ ≤ k ∧ k < c + 1 ∧ p = g / 8 ^ (k + 1)
       · exfalso
         by_cases h4 : k = c
         · subst h4; exact h1 ⟨rfl, h3.2.2⟩
         · exact h2 ⟨h3.1, by omega, h3.2.2⟩
       · rw [if_neg h3]
  rw [e]
  rfl
theorem rem_N (σ : St) (g κ c k p : Nat) (h : c ≤ k) : (σ.rem g κ c).N k p = σ.N k p := if_neg (by omega)
theorem Del_nil (page : Int) (w : World) : Calls Try.prog 15 #[.pointer none, .int .i64 page] w fun e w' => e = .returned (.tuple #[.int .i64 0, .int .i64 1]) ∧ Below w.heap.size w w' := by
  go_enter Try.func15, Try.ntmps15
  go_wp2_with (go_at_call 32; refine (find_nil page _).mono ?_; rintro e w1 ⟨rfl, rfl⟩)
  go_returns
  exact ⟨rfl, Below.refl _ _⟩
theorem Del_out (page : Int) (t : Nat) (w : World) (h : ¬ (0 ≤ page ∧ page < 4096)) : Calls Try.prog 15 #[.pointer (some ⟨t, 0, none⟩), .int .i64 page] w fun e w' => e = .returned (.tuple #[.int .i64 0, .int .i64 3]) ∧ Below w.heap.size w w' := by
  go_enter Try.func15, Try.ntmps15
  go_wp2_with (go_at_call 32; refine (find_out page t _ h).mono ?_; rintro e w1 ⟨rfl, rfl⟩)
  go_returns
  exact ⟨rfl, Below.refl _ _⟩
theorem Del_nf (g t : Nat) (σ : St) (many nodes : Int) (F : List Nat) (w : World) (hg : g < 4096) (h : Hp w t σ many nodes F) (hn : Nf σ g) : Calls Try.prog 15 #[.pointer (some ⟨t, 0, none⟩), .int .i64 (g : Nat)] w fun e w' => e = .returned (.tuple #[.int .i64 0, .int .i64 6]) ∧ Below w.heap.size w w' := by
  have HN := Lib.hid (And.intro h hn)
  clear h hn
  go_enter Try.func15, Try.ntmps15
  go_wp2_with fail
  refine (find_nf g t σ many nodes F w hg HN.out.1 HN.out.2).mono ?_
  rintro e w2 ⟨hb2, rfl⟩
  have HB := Lib.hid hb2
  clear hb2
  go_wp2_with fail
  go_returns
  exact ⟨rfl, HB.out⟩
set_option maxRecDepth 100000 in
set_option maxHeartbeats 8000000 in
theorem Del_ok (g t : Nat) (σ : St) (M' : Nat → Nat → Nat → Bool) (many nodes : Int) (F : List Nat) (κ x : Nat) (l : List Nat) (w : World) (hg : g < 4096) (h : Hp w t σ many nodes F) (hA : At σ g κ l) (hE : σ.E κ (g / 8 ^ κ) = some x)
    (hX : ∀ k q, σ.bel k q ≠ none → σ.E k q = none) (hN3 : ∀ k p, 3 < k → σ.N k p = none) (hmn : -9000000 ≤ many ∧ many ≤ 9000000 ∧ -9000000 ≤ nodes ∧ nodes ≤ 9000000)
    (hT : Tgt (clr σ.M κ (g / 8 ^ κ) 3) M' g κ) :
    Calls Try.prog 15 #[.pointer (some ⟨t, 0, none⟩), .int .i64 (g : Nat)] w fun e w' => e = .returned (.tuple #[.int .i64 (σ.V κ (g / 8 ^ κ)), .int .i64 0]) ∧ Chg F F w w' ∧ ∃ c, κ ≤ c ∧ c ≤ 4 ∧
      Hp w' t (((σ.noE κ (g / 8 ^ κ)).wM M').rem g κ c) (many - 1) (nodes - ((c : Nat) - (κ : Nat))) F ∧ (c = 4 ∨ (((σ.noE κ (g / 8 ^ κ)).wM M').rem g κ c).used c (g / 8 ^ (c + 1)) ≠ 0) ∧
      ∀ k, κ ≤ k → k < c → (((σ.noE κ (g / 8 ^ κ)).wM M').rem g κ k).used k (g / 8 ^ (k + 1)) = 0 := by
  have HT := Lib.hid hT
  have HXX := Lib.hid (And.intro hX hN3)
  clear hT hX hN3
  have HH := Lib.hid h
  go_enter Try.func15, Try.ntmps15
  go_wp2_with fail
  refine (find_found g t σ many nodes F κ x l w hg h hA hE).mono ?_
  rintro e w2 ⟨hb2, m, b, vb, cap, hf, rfl⟩
  clear h
  have H2 := Lib.hid (HH.out.below hb2)
  have HF := Lib.hid hf
  have hs8 : g / 8 ^ κ % 8 < 8 := by omega
  have hm3 : m ≤ 3 := by have := hf.mq; omega
  have hκ3 := hf.at_.le
  have HQ := Lib.hid (bel_eq (g := g) (k := κ))
  have hlst := hf.lst
  have hcell := H2.out.ecell hf.nb hs8
  rw [HQ.out, hf.ex] at hcell
  have hecell : w2.cell? ⟨b, 8 + g / 8 ^ κ % 8, none⟩ = some (.pointer (some ⟨x, 0, none⟩)) := hcell
  obtain ⟨hvc, hvf⟩ := H2.out.vcell hf.ex
  have HS := Lib.hid (fun W => (slot_any g κ hg hκ3 W).mono fun _ _ h => (⟨h.1, h.2.symm⟩ : _ ∧ _))
  have p0 : ¬ (((m : Nat) : Int) + 1 = 0) := by omega
  have p1 : IntKind.i64.wrap ((m : Nat) : Int) = ((m : Nat) : Int) := by rw [IntKind.wrap_i64]; omega
  have p2 : ((m : Nat) : Int) < ((m : Nat) : Int) + 1 := by omega
  have h1 : ((g / 8 ^ κ % 8 : Nat) : Int) < 8 := by omega
  have HB2 := Lib.hid hb2
  clear hcell hf hb2
  generalize hs : g / 8 ^ κ % 8 = s at *
  have HSS := Lib.hid hs
  clear hs
  have HVF := Lib.hid (show vb ∉ F from fun hm => by have := HH.out.lt vb hm; have := HF.out.vB; omega)
  have hnb := HF.out.nb
  have huc := H2.out.ucell hnb
  have hu8 := cnt8_le fun s => σ.occ κ (8 * (g / 8 ^ (κ + 1)) + s)
  have HD := Lib.hid (H2.out.dropE hnb hs8 (by rw [HQ.out]; exact hE) (by rw [HQ.out]; exact hA.bel))
  rw [HQ.out] at HD
  have hfz : ∀ j, w2.frozen? ⟨b, j, none⟩ = false := nodeO_free (H2.out.nd _ _ _ hnb).1
  have HSQ := Lib.hid (HF.out.sq.chg HD.out.2 (fun b hb hm => by simp [vblk_some] at hb; subst hb; exact HVF.out hm))
  obtain ⟨u, hu⟩ : ∃ u, σ.used κ (g / 8 ^ (κ + 1)) = u := ⟨_, rfl⟩
  have hu8' : u ≤ 8 := by rw [← hu]; exact hu8
  rw [hu] at huc HD HSQ
  have q1 : IntKind.i64.wrap (((u : Nat) : Int) - 1) = ((u : Nat) : Int) - 1 := by rw [IntKind.wrap_i64]; omega
  obtain ⟨v, hv⟩ : ∃ v, σ.V κ (g / 8 ^ κ) = v := ⟨_, rfl⟩
  have HV := Lib.hid hv
  rw [hv] at hvc
  clear hu8 hu hv hnb hA hE
  go_wp2_with fail
  refine (HS.out _).mono ?_
  rintro e w3 ⟨rfl, rfl⟩
  have HT4 := Lib.hid (show Hp ((w3.setCell ⟨b, 8 + s, none⟩ (.pointer none)).setCell ⟨b, 19, none⟩ (.int .i64 (((u : Nat) : Int) - 1))) t ((σ.noE κ (g / 8 ^ κ)).wM (clr σ.M κ (g / 8 ^ κ) 0)) many nodes F from by rw [clr_zero]; exact HD.out.1)
  go_upto_region 9 with fail
  have HC4 := Lib.hid ((Chg.of_below (F := F) (HB2.out.mono (Nat.le_refl _))).trans HD.out.2)
  have HP := Lib.hid (And.intro HF.out.at_ (And.intro HF.out.mq (And.intro HF.out.ln HF.out.nb)))
  clear hlst hvf hecell hfz huc hvc HF HB2 H2 HD q1
  generalize (w3.setCell ⟨b, 8 + s, none⟩ (.pointer none)).setCell ⟨b, 19, none⟩ (.int .i64 (((u : Nat) : Int) - 1)) = w4 at *
  go_wp2_with fail
  go_loopw [55] (fun st wx => ∃ n : Nat, n ≤ 3 ∧ st = .int .i64 (n : Nat) ∧ RowKit.Hid (Hp wx t ((σ.noE κ (g / 8 ^ κ)).wM (clr σ.M κ (g / 8 ^ κ) n)) many nodes F ∧ Chg F F w4 wx)) (fun st _ => 3 - (intOf st).toNat)
  case atStart => exact ⟨0, by omega, rfl, Lib.hid ⟨HT4.out, Chg.refl _ _⟩⟩
  case round =>
    obtain ⟨n, hn, rfl, HI⟩ := hrel
    clear HT4
    by_cases hn3 : n < 3
    · have hnI : ((n : Nat) : Int) < 3 := by omega
      have hmc := HI.out.1.mcell (k := κ) HP.out.2.2.2 hn3
      have hcl := byt_clear (fun s => ((σ.noE κ (g / 8 ^ κ)).wM (clr σ.M κ (g / 8 ^ κ) n)).M κ (8 * (g / 8 ^ (κ + 1)) + s) n) hs8
      have HB := Lib.hid (And.intro (HI.out.1.bit (k := κ) HP.out.2.2.2 hn3 hs8 false).1.drew (HI.out.1.bit (k := κ) HP.out.2.2.2 hn3 hs8 false).2.drew)
      have hfz : ∀ j, wr.frozen? ⟨b, j, none⟩ = false := nodeO_free (HI.out.1.nd _ _ _ HP.out.2.2.2).1
      rw [HQ.out] at HB
      generalize hyE : byt (fun s => ((σ.noE κ (g / 8 ^ κ)).wM (clr σ.M κ (g / 8 ^ κ) n)).M κ (8 * (g / 8 ^ (κ + 1)) + s) n) = y at *
      generalize hy1E : byt (put (fun s => ((σ.noE κ (g / 8 ^ κ)).wM (clr σ.M κ (g / 8 ^ κ) n)).M κ (8 * (g / 8 ^ (κ + 1)) + s) n) s false) = y1 at *
      clear hyE hy1E
      have q2 : IntKind.u8.wrap (2 ^ s) = 2 ^ s := u8pow hs8
      go_upto_region 12 with fail
      go_still_tail 12, (by kernel_rfl)
      change wpList _ _ _ _ _ (World.drew _)
      have hmc' : wr.drew.cell? ⟨b, 16 + n, none⟩ = some (.int .u8 y) := hmc
      have hfz' : ∀ j, wr.drew.frozen? ⟨b, j, none⟩ = false := hfz
      go_wp2_with fail
      have e : ({(σ.noE κ (g / 8 ^ κ)).wM (clr σ.M κ (g / 8 ^ κ) n) with M := setB (clr σ.M κ (g / 8 ^ κ) n) κ (g / 8 ^ κ) n false} : St) = (σ.noE κ (g / 8 ^ κ)).wM (clr σ.M κ (g / 8 ^ κ) (n + 1)) := by rw [clr_step]; rfl
      exact ⟨⟨n + 1, by omega, by simp, Lib.hid ⟨by have := HB.out.1; exact e ▸ this, HI.out.2.trans HB.out.2⟩⟩, by simp [intOf]; omega⟩
    · obtain rfl : n = 3 := by omega
      have HSQ5 := Lib.hid (HSQ.out.chg HI.out.2 (fun b hb hm => by simp [vblk_some] at hb; subst hb; exact HVF.out hm))
      go_wp2_with fail
      refine (refresh_any g t κ m vb cap l _ M' many nodes F wr hg HI.out.1 ⟨HP.out.1.le, HP.out.1.len, HP.out.1.nd, HP.out.1.bel⟩ HP.out.2.1 HP.out.2.2.1 HSQ5.out HVF.out HT.out).mono ?_
      rintro e w5 ⟨rfl, h5, hc5⟩
      have H5 := Lib.hid (show Hp w5 t ((σ.noE κ (g / 8 ^ κ)).wM M') many nodes F from h5)
      have HC5 := Lib.hid (HC4.out.trans (HI.out.2.trans hc5))
      have HSQ6 := Lib.hid (HSQ5.out.chg hc5 (fun b hb hm => by simp [vblk_some] at hb; subst hb; exact HVF.out hm))
      clear h5 hc5 HI HSQ5
      obtain ⟨c0, c1, c2, cf⟩ := H5.out.tcells
      have q1 : IntKind.i64.wrap (many - 1) = many - 1 := by rw [IntKind.wrap_i64]; omega
      have HM := Lib.hid (H5.out.setMany (many - 1))
      go_upto_region 16 with fail
      have HC7 := Lib.hid (HC5.out.trans HM.out.2)
      have HSQ7 := Lib.hid (HSQ6.out.chg HM.out.2 (fun b hb hm => by simp [vblk_some] at hb; subst hb; exact HVF.out hm))
      have H7 := Lib.hid HM.out.1
      clear c0 c1 c2 cf q1 HM HSQ6 HC5 H5 HC4 HSQ
      generalize w5.setCell ⟨t, 1, none⟩ (.int .i64 (many - 1)) = w7 at *
      obtain ⟨σ2, hσ2⟩ : ∃ σ2 : St, (σ.noE κ (g / 8 ^ κ)).wM M' = σ2 := ⟨_, rfl⟩
      have HN2 := Lib.hid (show σ2.N = σ.N from by rw [← hσ2]; rfl)
      have HE2 := Lib.hid (show ∀ k q, κ < k → σ.bel k q ≠ none → σ2.E k q = none from fun k q hk hne => by rw [← hσ2]; exact (setO_ne (by omega)).trans (HXX.out.1 k q hne))
      have HS2 := Lib.hid hσ2
      rw [hσ2] at H7
      clear hσ2
      go_wp2_with fail
      go_loopw [13] (fun st wx => ∃ i : Nat, i ≤ m ∧ st = .int .i64 (i : Nat) ∧ ∃ c : Nat, i + c = 3 ∧ RowKit.Hid (Hp wx t (σ2.rem g κ c) (many - 1) (nodes - ((c : Nat) - (κ : Nat))) F ∧ Chg F F w7 wx ∧ ∀ k, κ ≤ k → k < c → (σ2.rem g κ k).used k (g / 8 ^ (k + 1)) = 0)) (fun st _ => (intOf st).toNat)
      case atStart => exact ⟨m, Nat.le_refl _, rfl, κ, HP.out.2.1, Lib.hid ⟨by rw [rem_start, Int.sub_self, Int.sub_zero]; exact H7.out, Chg.refl _ _, fun k h1 h2 => by omega⟩⟩
      case round =>
        rename_i wq _
        obtain ⟨i, him, rfl, c, hic, HI⟩ := hrel
        clear H7
        have hκc : κ ≤ c := by have := HP.out.2.1; omega
        have hsq := HSQ7.out.chg HI.out.2.1 (fun b hb hm => by simp [vblk_some] at hb; subst hb; exact HVF.out hm)
        have hN1 := HP.out.1.nd i (by have := HP.out.2.2.1; omega)
        rw [show 3 - i = c from by omega, show 4 - i = c + 1 from by omega] at hN1
        obtain ⟨b1, hb1⟩ : ∃ b, l[i]? = some b := ⟨_, List.getElem?_eq_getElem (by have := HP.out.2.2.1; omega)⟩
        rw [hb1] at hN1
        have hc1 := pl_cell hsq hb1
        have hNr : (σ2.rem g κ c).N c (g / 8 ^ (c + 1)) = some b1 := by rw [rem_N _ _ _ _ _ _ (Nat.le_refl _), HN2.out]; exact hN1
        have huc := HI.out.1.ucell hNr
        have p4 : ((i : Nat) : Int) < ((m : Nat) : Int) + 1 := by omega
        obtain ⟨u2, hu2⟩ : ∃ u2, (σ2.rem g κ c).used c (g / 8 ^ (c + 1)) = u2 := ⟨_, rfl⟩
        rw [hu2] at huc
        have HU := Lib.hid hu2
        clear hu2
        by_cases hu0 : u2 = 0
        · subst hu0
          obtain ⟨c0, c1, c2, cf⟩ := HI.out.1.tcells
          have HNN := Lib.hid (And.intro hNr hb1)
          have q1 : IntKind.i64.wrap (nodes - ((c : Nat) - (κ : Nat)) - 1) = nodes - ((c : Nat) - (κ : Nat)) - 1 := by rw [IntKind.wrap_i64]; omega
          have HM := Lib.hid (HI.out.1.setNodes (nodes - ((c : Nat) - (κ : Nat)) - 1))
          clear hNr hb1 hN1
          generalize hnn : nodes - (((c : Nat) : Int) - ((κ : Nat) : Int)) = nn at *
          have HNE := Lib.hid hnn
          clear hnn
          go_upto_region 20 with fail
          have HH8 := Lib.hid (And.intro HM.out.1 (HI.out.2.1.trans HM.out.2))
          have HRL := Lib.hid HI.out.2.2
          have HHS := Lib.hid hsq
          clear c0 c1 c2 cf q1 hc1 huc HI hsq
          have HSQ8 := Lib.hid (HHS.out.chg HM.out.2 (fun b hb hm => by simp [vblk_some] at hb; subst hb; exact HVF.out hm))
          clear HM HHS
          generalize wr.setCell ⟨t, 2, none⟩ (.int .i64 (nn - 1)) = w8 at *
          by_cases hi0 : i = 0
          · subst hi0
            obtain rfl : c = 3 := by omega
            have HR := Lib.hid (HH8.out.1.dropRoot (fun p => by rw [rem_N _ _ _ _ _ _ (by omega), HN2.out]; exact HXX.out.2 4 p (by omega)))
            obtain ⟨c0, c1, c2, cf⟩ := HH8.out.1.tcells
            go_wp2_with fail
            go_returns
            refine ⟨by rw [HV.out]; rfl, HC7.out.trans (HH8.out.2.trans HR.out.2), 4, by omega, Nat.le_refl _, ?_, .inl rfl, fun k h1 h2 => ?_⟩
            · have e := rem_step σ2 g κ 3 hκc
              rw [show g / 8 ^ (3 + 1) = 0 from by show g / 4096 = 0; omega] at e
              rw [HS2.out, ← e, show nodes - (((4 : Nat) : Int) - ((κ : Nat) : Int)) = nn - 1 from by have := HNE.out; omega]
              exact HR.out.1
            · rw [HS2.out]
              by_cases hk3 : k = 3
              · subst hk3; exact HU.out
              · exact HRL.out k h1 (by omega)
          · obtain ⟨j, rfl⟩ : ∃ j, i = j + 1 := ⟨i - 1, by omega⟩
            have hN2 := HP.out.1.nd j (by have := HP.out.2.2.1; omega)
            rw [show 3 - j = c + 1 from by omega, show 4 - j = c + 2 from by omega] at hN2
            obtain ⟨b2, hb2⟩ : ∃ b, l[j]? = some b := ⟨_, List.getElem?_eq_getElem (by have := HP.out.2.2.1; omega)⟩
            rw [hb2] at hN2
            have hc2 := pl_cell HSQ8.out hb2
            have hNr2 : (σ2.rem g κ c).N (c + 1) (g / 8 ^ (c + 2)) = some b2 := by rw [rem_N _ _ _ _ _ _ (by omega), HN2.out]; exact hN2
            have hs28 : g / 8 ^ (c + 1) % 8 < 8 := by omega
            have hQ2 : 8 * (g / 8 ^ (c + 2)) + g / 8 ^ (c + 1) % 8 = g / 8 ^ (c + 1) := bel_eq (g := g) (k := c + 1)
            have HE := HE2.out (c + 1) (g / 8 ^ (c + 1)) (by omega) (by unfold St.bel; rw [if_neg (by omega), Nat.add_sub_cancel, ← HN2.out, ← rem_N σ2 g κ c c _ (Nat.le_refl _), HNN.out.1]; simp)
            have hD := HH8.out.1.dropN (k := c) (by omega) hNr2 hs28 (by rw [hQ2]; exact HNN.out.1) (by rw [hQ2]; exact HE)
            have huc2 := HH8.out.1.ucell hNr2
            have hbc2 := HH8.out.1.bcell hNr2 hs28
            have hu28 := cnt8_le fun s => (σ2.rem g κ c).occ (c + 1) (8 * (g / 8 ^ (c + 2)) + s)
            have hSL := fun W => slot_at g (c + 1) (((c : Nat) : Int) + 1) hg (by omega) (by omega) W
            obtain ⟨u3, hu3⟩ : ∃ u3, (σ2.rem g κ c).used (c + 1) (g / 8 ^ (c + 2)) = u3 := ⟨_, rfl⟩
            have hu38 : u3 ≤ 8 := by rw [← hu3]; exact hu28
            rw [hu3] at huc2 hD
            rw [hQ2] at hD
            generalize hs2 : g / 8 ^ (c + 1) % 8 = s2 at *
            have HD := Lib.hid hD
            have HSL := Lib.hid (fun W => (hSL W).mono fun _ _ h => (⟨h.1, h.2.symm⟩ : _ ∧ _))
            have hfz2 : ∀ j, w8.frozen? ⟨b2, j, none⟩ = false := nodeO_free (HH8.out.1.nd _ _ _ hNr2).1
            have q1 : IntKind.i64.wrap (((u3 : Nat) : Int) - 1) = ((u3 : Nat) : Int) - 1 := by rw [IntKind.wrap_i64]; omega
            have q2 : ((j : Nat) : Int) < ((m : Nat) : Int) + 1 := by omega
            have q3 : ((s2 : Nat) : Int) < 8 := by omega
            have q4 : ¬ (((j : Nat) : Int) + 1 = 0) := by omega
            have q5 : IntKind.i64.wrap (((κ : Nat) : Int) + (((m : Nat) : Int) + 1)) = ((κ : Nat) : Int) + (((m : Nat) : Int) + 1) := by rw [IntKind.wrap_i64]; omega
            have q6 : IntKind.i64.wrap (((κ : Nat) : Int) + (((m : Nat) : Int) + 1) - (((j : Nat) : Int) + 1)) = ((c : Nat) : Int) + 1 := by have := HP.out.2.1; rw [IntKind.wrap_i64]; omega
            clear hD hu28 hu3 hSL hs2 hQ2 hNr2 hN2 hb2 HE hi0
            go_upto_region 23 with fail
            go_still_tail 12, (by kernel_rfl)
            still_call (HSL.out _)
            repeat still_step
            refine wpStill_nil ?_
            change wpList _ _ _ _ _ (World.drew _)
            have hbc2' : w8.drew.cell? ⟨b2, s2, none⟩ = some _ := hbc2
            have hfz2' : ∀ j, w8.drew.frozen? ⟨b2, j, none⟩ = false := hfz2
            have huc2' : w8.drew.cell? ⟨b2, 19, none⟩ = some _ := huc2
            go_wp2_with fail
            exact ⟨⟨j, by omega, rfl, c + 1, by omega, Lib.hid ⟨by have := HD.out.1.drew; rw [rem_step σ2 g κ c hκc] at this; rw [show nodes - (((c + 1 : Nat) : Int) - ((κ : Nat) : Int)) = nn - 1 from by have := HNE.out; omega]; exact this, HH8.out.2.trans HD.out.2, fun k h1 h2 => by
              by_cases hkc : k = c
              · subst hkc; exact HU.out
              · exact HRL.out k h1 (by omega)⟩⟩, by simp [intOf]⟩
        · have hu0' : ¬ (((u2 : Nat) : Int) = 0) := by omega
          go_wp2_with fail
          go_returns
          exact ⟨by rw [HV.out]; rfl, HC7.out.trans HI.out.2.1, c, hκc, by omega, by rw [HS2.out]; exact HI.out.1, .inr (by rw [HS2.out, HU.out]; exact hu0), by rw [HS2.out]; exact HI.out.2.2⟩

end Go.Proofs.Ytdnnfoojdfmajaa
