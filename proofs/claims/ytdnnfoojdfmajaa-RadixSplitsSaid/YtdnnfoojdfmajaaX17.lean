/- Parts of the proofs of layer 19 (radix): contracts of its functions, and the laws' walks. -/
import Derived.Test.YtdnnfoojdfmajaaProg
import Derived.WalkKit
import Derived.WalkSpells
import Derived.WalkLawsBesides
import Derived.BigQuiet
import Derived.Deep.QuietTactic
import Derived.Lib.Hide
import Derived.Deep.RegionHeld3
import Derived.Deep.DeepCutAuto
import Derived.KernelRfl
import Derived.Deep.OwnRows
import Derived.Laws.CopyOwn
import Derived.Laws.CopyRow
import Derived.StillTailTactics
import Derived.Deep.RegionLaw
import Derived.Handy
import Derived.Deep.CutRange
import Derived.Deep.CutBlock
import Derived.Test.YtdnnfoojdfmajaaX16
namespace Go.Proofs.Ytdnnfoojdfmajaa
open Go.RowKit
set_option linter.unusedVariables false
set_option linter.unusedSimpArgs false

/-- The tree with a node's eight entries made one. -/
def St.join (σ : St) (κ P x0 : Nat) : St :=
  ⟨setO σ.N κ P none, fun k q => if k = κ + 1 ∧ q = P then some x0 else if k = κ ∧ q / 8 = P then none else σ.E k q, fun k q => if k = κ + 1 ∧ q = P then σ.V κ (8 * P) else σ.V k q, fun k q m => if k = κ ∧ q / 8 = P then false else σ.M k q m⟩
section
variable {σ : St} {κ P P2 s2 x0 : Nat}
theorem join_bel_at : (σ.join κ P x0).bel (κ + 1) P = none := by
  unfold St.bel
  rw [if_neg (by omega)]
  exact setO_at _ _ _ _
theorem join_bel_ne {k q : Nat} (h : ¬ (k = κ + 1 ∧ q = P)) : (σ.join κ P x0).bel k q = σ.bel k q := by
  unfold St.bel
  by_cases h0 : k = 0
  · rw [if_pos h0, if_pos h0]
  · rw [if_neg h0, if_neg h0]
    exact setO_ne (by omega)
theorem join_E_at : (σ.join κ P x0).E (κ + 1) P = some x0 := if_pos ⟨rfl, rfl⟩
theorem join_E_ne {k q : Nat} (h : ¬ (k = κ + 1 ∧ q = P)) (h2 : ¬ (k = κ ∧ q / 8 = P)) : (σ.join κ P x0).E k q = σ.E k q := by
  show (if k = κ + 1 ∧ q = P then some x0 else if k = κ ∧ q / 8 = P then none else σ.E k q) = _
  rw [if_neg h, if_neg h2]
theorem join_M_ne {k q m : Nat} (h : ¬ (k = κ ∧ q / 8 = P)) : (σ.join κ P x0).M k q m = σ.M k q m := if_neg h
theorem Hp.join {w : World} {t : Nat} {many nodes : Int} {F : List Nat} {b b2 : Nat} (h : Hp w t σ many nodes F) (hκ : κ ≤ 2) (hs : s2 < 8) (hP : 8 * P2 + s2 = P) (hb : σ.N κ P = some b) (hb2 : σ.N (κ + 1) P2 = some b2) (hx : σ.E κ (8 * P) = some x0) :
    Hp ((w.setCell ⟨b2, s2, none⟩ (.pointer none)).setCell ⟨b2, 8 + s2, none⟩ (.pointer (some ⟨x0, 0, none⟩))) t (σ.join κ P x0) many nodes F ∧ Chg F F w ((w.setCell ⟨b2, s2, none⟩ (.pointer none)).setCell ⟨b2, 8 + s2, none⟩ (.pointer (some ⟨x0, 0, none⟩))) := by
  subst hP
  have hbF := (h.nd _ _ b2 hb2).2
  have hoth : ∀ b', b' ≠ b2 → ((w.setCell ⟨b2, s2, none⟩ (.pointer none)).setCell ⟨b2, 8 + s2, none⟩ (.pointer (some ⟨x0, 0, none⟩))).heap[b']? = w.heap[b']? := fun b' hne => (Below.heap_setCell _ ⟨b2, 8 + s2, none⟩ _ b' hne).trans (Below.heap_setCell _ ⟨b2, s2, none⟩ _ b' hne)
  have hNc : ∀ {k p b'}, (σ.join κ (8 * P2 + s2) x0).N k p = some b' → ¬ (k = κ ∧ p = 8 * P2 + s2) ∧ σ.N k p = some b' := fun {k p b'} hN => by
    have hN' : setO σ.N κ (8 * P2 + s2) none k p = some b' := hN
    unfold setO at hN'
    split at hN'
    · cases hN'
    · rename_i hk
      exact ⟨hk, hN'⟩
  have hEc : ∀ {k q e}, (σ.join κ (8 * P2 + s2) x0).E k q = some e → (k = κ + 1 ∧ q = 8 * P2 + s2 ∧ e = x0) ∨ (¬ (k = κ + 1 ∧ q = 8 * P2 + s2) ∧ ¬ (k = κ ∧ q / 8 = 8 * P2 + s2) ∧ σ.E k q = some e) := fun {k q e} hE => by
    have hE' : (if k = κ + 1 ∧ q = 8 * P2 + s2 then some x0 else if k = κ ∧ q / 8 = 8 * P2 + s2 then none else σ.E k q) = some e := hE
    split at hE'
    · rename_i hk
      exact .inl ⟨hk.1, hk.2, (Option.some.inj hE').symm⟩
    · rename_i hk
      split at hE'
      · cases hE'
      · rename_i hk2
        exact .inr ⟨hk, hk2, hE'⟩
  have hrt : (σ.join κ (8 * P2 + s2) x0).N 3 0 = σ.N 3 0 := setO_ne (by omega)
  refine ⟨⟨by rw [hrt]; exact (hoth t (fun e => h.nt hb2 e.symm)).trans h.tr, fun k p b' hN => ?_, fun k q e hE => ?_, h.tF, fun b' hb' => by simpa using h.lt b' hb', fun k1 p1 k2 p2 b' h1 h2 => h.i1 _ _ _ _ _ (hNc h1).2 (hNc h2).2, fun k1 p1 k2 p2 e h1 h2 => ?_⟩, ((Chg.refl F w).setCell b2 _ _ hbF).setCell b2 _ _ hbF⟩
  · obtain ⟨hne, hN0⟩ := hNc hN
    refine ⟨?_, (h.nd k p b' hN0).2⟩
    by_cases hk : k = κ + 1 ∧ p = P2
    · obtain ⟨rfl, rfl⟩ := hk
      rw [hb2] at hN0
      obtain rfl := Option.some.inj hN0
      have r1 := nodeO_set (h.nd _ _ b2 hb2).1 (j := s2) (by omega) (.pointer none)
      have r2 := nodeO_set r1 (j := 8 + s2) (by omega) (.pointer (some ⟨x0, 0, none⟩))
      refine r2.trans (congrArg some (nodeO_congr fun i hi => ?_))
      unfold St.row
      by_cases h1 : i = 8 + s2
      · subst h1
        rw [if_pos rfl, if_neg (by omega), if_pos (by omega), show 8 + s2 - 8 = s2 from by omega, join_E_at]; rfl
      · rw [if_neg h1]
        by_cases h2 : i = s2
        · subst h2
          rw [if_pos rfl, if_pos hs, join_bel_at]; rfl
        · rw [if_neg h2]
          by_cases h3 : i < 8
          · rw [if_pos h3, if_pos h3, join_bel_ne (by omega)]
          · by_cases h4 : i < 16
            · rw [if_neg h3, if_pos h4, if_neg h3, if_pos h4, join_E_ne (by omega) (by omega)]
            · by_cases h5 : i < 19
              · rw [if_neg h3, if_neg h4, if_pos h5, if_neg h3, if_neg h4, if_pos h5]
                congr 1
                exact (byt_congr fun j hj => join_M_ne (by omega)).symm
              · rw [if_neg h3, if_neg h4, if_neg h5, if_neg h3, if_neg h4, if_neg h5]
                congr 2
                unfold St.used
                refine cnt8_congr fun j hj => ?_
                unfold St.occ
                by_cases hjs : j = s2
                · subst hjs
                  rw [join_bel_at, join_E_at]
                  have : σ.bel (κ + 1) (8 * p + j) = some b := by unfold St.bel; rw [if_neg (by omega)]; exact hb
                  rw [this]; rfl
                · rw [join_bel_ne (by omega), join_E_ne (by omega) (by omega)]
    · have hne2 : b' ≠ b2 := fun e => hk (by subst e; exact h.i1 k p (κ + 1) P2 b' hN0 hb2)
      refine ((hoth b' hne2).trans (h.nd k p b' hN0).1).trans (congrArg some (nodeO_congr fun i hi => ?_))
      unfold St.row
      by_cases h3 : i < 8
      · rw [if_pos h3, if_pos h3, join_bel_ne (by omega)]
      · by_cases h4 : i < 16
        · rw [if_neg h3, if_pos h4, if_neg h3, if_pos h4, join_E_ne (by omega) (by omega)]
        · by_cases h5 : i < 19
          · rw [if_neg h3, if_neg h4, if_pos h5, if_neg h3, if_neg h4, if_pos h5]
            congr 1
            exact (byt_congr fun j hj => join_M_ne (by omega)).symm
          · rw [if_neg h3, if_neg h4, if_neg h5, if_neg h3, if_neg h4, if_neg h5]
            congr 2
            unfold St.used
            refine cnt8_congr fun j hj => ?_
            unfold St.occ
            rw [join_bel_ne (by omega), join_E_ne (by omega) (by omega)]
  · rcases hEc hE with ⟨rfl, rfl, rfl⟩ | ⟨h1, h2, hE0⟩
    · have e : (σ.join κ (8 * P2 + s2) e).V (κ + 1) (8 * P2 + s2) = σ.V κ (8 * (8 * P2 + s2)) := if_pos ⟨rfl, rfl⟩
      rw [e]
      exact ⟨(hoth _ (fun x => h.ne hb2 hx x.symm)).trans (h.en _ _ _ hx).1, (h.en _ _ _ hx).2⟩
    · have e : (σ.join κ (8 * P2 + s2) x0).V k q = σ.V k q := if_neg h1
      rw [e]
      exact ⟨(hoth _ (fun x => h.ne hb2 hE0 x.symm)).trans (h.en _ _ _ hE0).1, (h.en _ _ _ hE0).2⟩
  · rcases hEc h1 with ⟨e1, e2, e3⟩ | ⟨_, n1, g1⟩
    · rcases hEc h2 with ⟨e4, e5, e6⟩ | ⟨_, n2, g2⟩
      · exact ⟨e1.trans e4.symm, e2.trans e5.symm⟩
      · have := h.i2 _ _ _ _ _ hx (e3 ▸ g2)
        exact absurd ⟨this.1.symm, by omega⟩ n2
    · rcases hEc h2 with ⟨e4, e5, e6⟩ | ⟨_, n2, g2⟩
      · have := h.i2 _ _ _ _ _ hx (e6 ▸ g1)
        exact absurd ⟨this.1.symm, by omega⟩ n1
      · exact h.i2 _ _ _ _ _ g1 g2
end
theorem Join_nil (page : Int) (w : World) : Calls Try.prog 23 #[.pointer none, .int .i64 page] w fun e w' => e = .returned (.int .i64 1) ∧ Below w.heap.size w w' := by
  go_enter Try.func23, Try.ntmps23
  go_wp2_with (go_at_call 32; refine (find_nil page _).mono ?_; rintro e w1 ⟨rfl, rfl⟩)
  go_ret
  exact ⟨rfl, Below.refl _ _⟩
theorem Join_out (page : Int) (t : Nat) (w : World) (h : ¬ (0 ≤ page ∧ page < 4096)) : Calls Try.prog 23 #[.pointer (some ⟨t, 0, none⟩), .int .i64 page] w fun e w' => e = .returned (.int .i64 3) ∧ Below w.heap.size w w' := by
  go_enter Try.func23, Try.ntmps23
  go_wp2_with (go_at_call 32; refine (find_out page t _ h).mono ?_; rintro e w1 ⟨rfl, rfl⟩)
  go_ret
  exact ⟨rfl, Below.refl _ _⟩
theorem Join_nf (g t : Nat) (σ : St) (many nodes : Int) (F : List Nat) (w : World) (hg : g < 4096) (h : Hp w t σ many nodes F) (hn : Nf σ g) : Calls Try.prog 23 #[.pointer (some ⟨t, 0, none⟩), .int .i64 (g : Nat)] w fun e w' => e = .returned (.int .i64 6) ∧ Below w.heap.size w w' := by
  have HN := Lib.hid (And.intro h hn)
  clear h hn
  go_enter Try.func23, Try.ntmps23
  go_wp2_with fail
  refine (find_nf g t σ many nodes F w hg HN.out.1 HN.out.2).mono ?_
  rintro e w2 ⟨hb2, rfl⟩
  have HB := Lib.hid hb2
  clear hb2
  go_wp2_with fail
  go_ret
  exact ⟨rfl, HB.out⟩
set_option maxHeartbeats 4000000 in
theorem Join_top (g t : Nat) (σ : St) (many nodes : Int) (F : List Nat) (κ x : Nat) (l : List Nat) (w : World) (hg : g < 4096) (h : Hp w t σ many nodes F) (hA : At σ g κ l) (hE : σ.E κ (g / 8 ^ κ) = some x) (hκ : κ = 2) : Calls Try.prog 23 #[.pointer (some ⟨t, 0, none⟩), .int .i64 (g : Nat)] w fun e w' => e = .returned (.int .i64 2) ∧ Below w.heap.size w w' := by
  have HH := Lib.hid h
  go_enter Try.func23, Try.ntmps23
  go_wp2_with fail
  refine (find_found g t σ many nodes F κ x l w hg h hA hE).mono ?_
  rintro e w2 ⟨hb2, m, b, vb, cap, hf, rfl⟩
  clear h
  subst hκ
  have HB2 := Lib.hid hb2
  clear hf hb2
  go_wp2_with fail
  go_ret
  exact ⟨rfl, HB2.out⟩
set_option maxRecDepth 100000 in
set_option maxHeartbeats 8000000 in
theorem Join_any (g t : Nat) (σ : St) (many nodes : Int) (F : List Nat) (κ x : Nat) (l : List Nat) (w : World) (hg : g < 4096) (h : Hp w t σ many nodes F) (hA : At σ g κ l) (hE : σ.E κ (g / 8 ^ κ) = some x) (hκ : κ ≤ 1) (hV : ∀ i, i < 8 → -1152921504606846976 ≤ σ.V κ (8 * (g / 8 ^ (κ + 1)) + i) ∧ σ.V κ (8 * (g / 8 ^ (κ + 1)) + i) ≤ 1152921504606846976 ∨ σ.E κ (8 * (g / 8 ^ (κ + 1)) + i) = none) (hmn : -9000000 ≤ many ∧ many ≤ 9000000 ∧ -9000000 ≤ nodes ∧ nodes ≤ 9000000) :
    Calls Try.prog 23 #[.pointer (some ⟨t, 0, none⟩), .int .i64 (g : Nat)] w fun e w' => ∃ c, Alk σ κ (g / 8 ^ (κ + 1)) c ∧ e = .returned (.int .i64 c) ∧ ((c ≠ 0 ∧ Below w.heap.size w w') ∨ (c = 0 ∧ ∃ x0, σ.E κ (8 * (g / 8 ^ (κ + 1))) = some x0 ∧ Hp w' t (σ.join κ (g / 8 ^ (κ + 1)) x0) (many - 7) (nodes - 1) F ∧ Chg F F w w')) := by
  have HH := Lib.hid h
  go_enter Try.func23, Try.ntmps23
  go_wp2_with fail
  refine (find_found g t σ many nodes F κ x l w hg h hA hE).mono ?_
  rintro e w2 ⟨hb2, m, b, vb, cap, hf, rfl⟩
  clear h
  have H2 := Lib.hid (HH.out.below hb2)
  have HF := Lib.hid hf
  have hs8 : g / 8 ^ κ % 8 < 8 := by omega
  have hm3 : m ≤ 3 := by have := hf.mq; omega
  have hκ3 := hf.at_.le
  have HQ := Lib.hid (bel_eq (g := g) (k := κ))
  have hlst := hf.lst
  have hcell := H2.out.ecell hf.nb hs8
  rw [HQ.out, hf.ex] at hcell
  have hecell : w2.cell? ⟨b, 8 + g / 8 ^ κ % 8, none⟩ = some (.pointer (some ⟨x, 0, none⟩)) := hcell
  obtain ⟨hvc, hvf⟩ := H2.out.vcell hf.ex
  have HS := Lib.hid (fun W => (slot_any g κ hg hκ3 W).mono fun _ _ h => (⟨h.1, h.2.symm⟩ : _ ∧ _))
  have p0 : ¬ (((m : Nat) : Int) + 1 = 0) := by omega
  have p1 : IntKind.i64.wrap ((m : Nat) : Int) = ((m : Nat) : Int) := by rw [IntKind.wrap_i64]; omega
  have p2 : ((m : Nat) : Int) < ((m : Nat) : Int) + 1 := by omega
  have h1 : ((g / 8 ^ κ % 8 : Nat) : Int) < 8 := by omega
  have HB2 := Lib.hid hb2
  clear hcell hf hb2
  generalize hs : g / 8 ^ κ % 8 = s at *
  have HSS := Lib.hid hs
  clear hs
  have hκI : ¬ (((κ : Nat) : Int) = 2) := by omega
  have HAK := Lib.hid (alike_any κ (g / 8 ^ (κ + 1)) b t σ many nodes F w2 H2.out HF.out.nb hV)
  clear hV
  go_wp2_with fail
  refine HAK.out.mono ?_
  rintro e w3 ⟨hb3, c, rfl, hak⟩
  have HK := Lib.hid (And.intro hb3 hak)
  have H3 := Lib.hid (H2.out.below hb3)
  have HF3 := Lib.hid (HF.out.below hb3)
  clear hb3 hak hvc hvf hecell hlst
  by_cases hc0 : c = 0
  · subst hc0
    obtain ⟨hall, huni⟩ : (∀ j, j < 8 → σ.bel κ (8 * (g / 8 ^ (κ + 1)) + j) = none ∧ σ.E κ (8 * (g / 8 ^ (κ + 1)) + j) ≠ none) ∧ True := by
      rcases HK.out.2 with ⟨i, _, _, ⟨_, h⟩ | ⟨_, _, h⟩⟩ | ⟨h, _⟩
      · exact absurd h (by decide)
      · exact absurd h (by decide)
      · exact ⟨h, trivial⟩
    obtain ⟨x0, hx0⟩ : ∃ x0, σ.E κ (8 * (g / 8 ^ (κ + 1))) = some x0 := by
      cases he : σ.E κ (8 * (g / 8 ^ (κ + 1))) with
      | none => exact absurd he (hall 0 (by omega)).2
      | some x0 => exact ⟨x0, rfl⟩
    obtain ⟨m', rfl⟩ : ∃ m', m = m' + 1 := ⟨m - 1, by have := HF.out.mq; omega⟩
    have hmκ := HF.out.mq
    have hN2 := HF.out.at_.nd m' (by have := HF.out.ln; omega)
    rw [show 3 - m' = κ + 1 from by omega, show 4 - m' = κ + 2 from by omega] at hN2
    obtain ⟨b2, hb2⟩ : ∃ b, l[m']? = some b := ⟨_, List.getElem?_eq_getElem (by have := HF.out.ln; omega)⟩
    rw [hb2] at hN2
    have hc2 := pl_cell HF3.out.sq hb2
    have hs28 : g / 8 ^ (κ + 1) % 8 < 8 := by omega
    have hQ2 : 8 * (g / 8 ^ (κ + 2)) + g / 8 ^ (κ + 1) % 8 = g / 8 ^ (κ + 1) := bel_eq (g := g) (k := κ + 1)
    have hSL := fun W => slot_at g (κ + 1) (((κ : Nat) : Int) + 1) hg (by omega) (by omega) W
    generalize hs2 : g / 8 ^ (κ + 1) % 8 = s2 at *
    have HSL := Lib.hid (fun W => (hSL W).mono fun _ _ h => (⟨h.1, h.2.symm⟩ : _ ∧ _))
    have HQ2 := Lib.hid (And.intro hQ2 (And.intro hN2 hx0))
    have r1 : ((m' : Nat) : Int) < ((m' : Nat) : Int) + 1 + 1 := by omega
    have r2 : IntKind.i64.wrap (((m' : Nat) : Int) + 1 + 1 - 2) = ((m' : Nat) : Int) := by rw [IntKind.wrap_i64]; omega
    have r3 : IntKind.i64.wrap (((κ : Nat) : Int) + 1) = ((κ : Nat) : Int) + 1 := by rw [IntKind.wrap_i64]; omega
    have r4 : IntKind.i64.wrap ((m' : Nat) : Int) = ((m' : Nat) : Int) := by rw [IntKind.wrap_i64]; omega
    clear hSL hs2 hQ2 hN2 hb2 hall
    go_upto_region 10 with fail
    go_quiet ((go_at_call 33; exact Calls.quiet_of_same (HSL.out _)))
    have H4 := Lib.hid (H3.out.drewN nq)
    have HB4 := Lib.hid (below_drewN (HB2.out.trans (HK.out.1.mono HB2.out.size)) nq)
    clear hc2 r1 r2 r3 r4
    generalize w3.drewN nq = w4 at *
    have he0 := H4.out.ecell HF.out.nb (s := 0) (by omega)
    rw [Nat.add_zero, Nat.add_zero, HQ2.out.2.2] at he0
    have he0' : w4.cell? ⟨b, 8, none⟩ = some (.pointer (some ⟨x0, 0, none⟩)) := he0
    have hbc := H4.out.bcell (k := κ + 1) HQ2.out.2.1 hs28
    have hec := H4.out.ecell (k := κ + 1) HQ2.out.2.1 hs28
    have hfz : ∀ j, w4.frozen? ⟨b2, j, none⟩ = false := nodeO_free (H4.out.nd _ _ _ HQ2.out.2.1).1
    have hJ := H4.out.join (by omega) hs28 HQ2.out.1 HF.out.nb HQ2.out.2.1 HQ2.out.2.2
    have HJ := Lib.hid (And.intro hJ.1.drew hJ.2.drew)
    have h2I : ((s2 : Nat) : Int) < 8 := by omega
    clear he0 hJ
    generalize pt (σ.bel (κ + 1) (8 * (g / 8 ^ (κ + 1 + 1)) + s2)) = v1 at *
    generalize pt (σ.E (κ + 1) (8 * (g / 8 ^ (κ + 1 + 1)) + s2)) = v2 at *
    generalize pt (σ.bel (κ + 1) (8 * (g / 8 ^ (κ + 2)) + s2)) = v1 at *
    generalize pt (σ.E (κ + 1) (8 * (g / 8 ^ (κ + 2)) + s2)) = v2 at *
    go_upto_region 11 with fail
    go_cut [] (fun wc => wc = ((w4.setCell ⟨b2, s2, none⟩ (.pointer none)).setCell ⟨b2, 8 + s2, none⟩ (.pointer (some ⟨x0, 0, none⟩))).drew)
    case first =>
      go_region
      all_goals (go_wp2_with fail; go_meet; rfl)
    case rest =>
      subst hcut
      clear he0' hbc hec hfz
      generalize ((w4.setCell ⟨b2, s2, none⟩ (.pointer none)).setCell ⟨b2, 8 + s2, none⟩ (.pointer (some ⟨x0, 0, none⟩))).drew = w7 at *
      obtain ⟨d0, d1, d2, df⟩ := HJ.out.1.tcells
      have q1 : IntKind.i64.wrap (nodes - 1) = nodes - 1 := by rw [IntKind.wrap_i64]; omega
      have q2 : IntKind.i64.wrap (many - 7) = many - 7 := by rw [IntKind.wrap_i64]; omega
      have HS4 := Lib.hid (HJ.out.1.setNodes (nodes - 1))
      have HS5 := Lib.hid (HS4.out.1.setMany (many - 7))
      go_wp2_with fail
      go_ret
      exact ⟨0, HK.out.2, rfl, .inr ⟨rfl, x0, HQ2.out.2.2, HS5.out.1, (Chg.of_below (F := F) (HB4.out.mono (Nat.le_refl _))).trans (HJ.out.2.trans (HS4.out.2.trans HS5.out.2))⟩⟩
  · go_wp2_with fail
    go_ret
    exact ⟨c, HK.out.2, rfl, .inl ⟨hc0, HB2.out.trans (HK.out.1.mono HB2.out.size)⟩⟩

end Go.Proofs.Ytdnnfoojdfmajaa
