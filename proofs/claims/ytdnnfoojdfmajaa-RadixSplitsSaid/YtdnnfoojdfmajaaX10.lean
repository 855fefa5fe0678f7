/- Parts of the proofs of layer 19 (radix): contracts of its functions, and the laws' walks. -/
import Derived.Test.YtdnnfoojdfmajaaProg
import Derived.WalkKit
import Derived.WalkSpells
import Derived.WalkLawsBesides
import Derived.BigQuiet
import Derived.Deep.QuietTactic
import Derived.Lib.Hide
import Derived.Deep.RegionHeld3
import Derived.Deep.DeepCutAuto
import Derived.KernelRfl
import Derived.Deep.OwnRows
import Derived.Laws.CopyOwn
import Derived.Laws.CopyRow
import Derived.StillTailTactics
import Derived.Deep.RegionLaw
import Derived.Handy
import Derived.Deep.CutRange
import Derived.Deep.CutBlock
import Derived.Test.YtdnnfoojdfmajaaX9
namespace Go.Proofs.Ytdnnfoojdfmajaa
open Go.RowKit
set_option linter.unusedVariables false
set_option linter.unusedSimpArgs false

theorem At.uniq {σ : St} {g κ κ' : Nat} {l l' : List Nat} (h : At σ g κ l) (h' : At σ g κ' l') : κ = κ' ∧ l = l' := by
  have key : ∀ {κ κ' : Nat} {l l' : List Nat}, At σ g κ l → At σ g κ' l' → ¬ κ < κ' := by
    intro κ κ' l l' h h' hlt
    have hb := h'.bel
    unfold St.bel at hb
    rw [if_neg (by omega)] at hb
    have hl := h'.le
    have hn := h.nd (3 - (κ' - 1)) (by have := h.len; omega)
    rw [show 3 - (3 - (κ' - 1)) = κ' - 1 from by omega, show 4 - (3 - (κ' - 1)) = κ' from by omega, hb, List.getElem?_eq_getElem (by have := h.len; omega)] at hn
    cases hn
  have e : κ = κ' := by
    have h1 := key h h'
    have h2 := key h' h
    omega
  subst e
  refine ⟨rfl, List.ext_getElem? fun i => ?_⟩
  have hl := h.len
  have hl' := h'.len
  by_cases hi : i < l.length
  · rw [← h.nd i hi, ← h'.nd i (by omega)]
  · rw [List.getElem?_eq_none (by omega), List.getElem?_eq_none (by omega)]
theorem At.wM {σ : St} {g κ : Nat} {l : List Nat} {M : Nat → Nat → Nat → Bool} (h : At σ g κ l) : At {σ with M := M} g κ l := ⟨h.le, h.len, h.nd, h.bel⟩
theorem At.not_nf {σ : St} {g κ x : Nat} {l : List Nat} (h : At σ g κ l) (hx : σ.E κ (g / 8 ^ κ) = some x) (hg : g < 4096) : ¬ Nf σ g := by
  rintro (h0 | ⟨κ', l', h', hn⟩)
  · have := h.nd 0 (by have := h.len; have := h.le; omega)
    rw [show g / 8 ^ (4 - 0) = 0 from by show g / 4096 = 0; omega, show 3 - 0 = 3 from rfl, h0, List.getElem?_eq_getElem (by have := h.len; have := h.le; omega)] at this
    cases this
  · obtain ⟨rfl, rfl⟩ := h.uniq h'
    rw [hx] at hn
    cases hn
theorem find_found (g t : Nat) (σ : St) (many nodes : Int) (F : List Nat) (κ x : Nat) (l : List Nat) (w : World) (hg : g < 4096) (h : Hp w t σ many nodes F) (hA : At σ g κ l) (hE : σ.E κ (g / 8 ^ κ) = some x) :
    Calls Try.prog 32 #[.pointer (some ⟨t, 0, none⟩), .int .i64 (g : Nat)] w fun e w' => Below w.heap.size w w' ∧ ∃ m b vb cap, Fd σ g w' w.heap.size κ m l b x vb cap ∧ e = .returned (.tuple #[.slice (some ⟨vb, 0, none⟩) (m + 1) cap, .int .i64 (κ : Nat), .int .i64 0]) :=
  (find_any g t σ many nodes F w hg h).mono fun e w' ⟨h1, h2⟩ => ⟨h1, by
    rcases h2 with ⟨h2, _⟩ | ⟨κ', m, l', b, x', vb, cap, hf, he⟩
    · exact absurd h2 (hA.not_nf hE hg)
    · obtain ⟨rfl, rfl⟩ := hA.uniq hf.at_
      have e := hf.ex
      rw [hE] at e
      cases e
      exact ⟨m, b, vb, cap, hf, he⟩⟩
theorem find_nf (g t : Nat) (σ : St) (many nodes : Int) (F : List Nat) (w : World) (hg : g < 4096) (h : Hp w t σ many nodes F) (hn : Nf σ g) :
    Calls Try.prog 32 #[.pointer (some ⟨t, 0, none⟩), .int .i64 (g : Nat)] w fun e w' => Below w.heap.size w w' ∧ e = .returned (.tuple #[.slice none 0 0, .int .i64 0, .int .i64 6]) :=
  (find_any g t σ many nodes F w hg h).mono fun e w' ⟨h1, h2⟩ => ⟨h1, by
    rcases h2 with ⟨_, h2⟩ | ⟨κ', m, l', b, x', vb, cap, hf, he⟩
    · exact h2
    · exact absurd hn (hf.at_.not_nf hf.ex hg)⟩
theorem Mark_nil (page mark : Int) (on : Bool) (w : World) : Calls Try.prog 28 #[.pointer none, .int .i64 page, .int .i64 mark, .bool on] w fun e w' => e = .returned (.int .i64 1) ∧ Below w.heap.size w w' := by
  go_enter Try.func28, Try.ntmps28
  go_wp2
  go_ret
  exact ⟨rfl, Below.refl _ _⟩
theorem Mark_arg (page mark : Int) (on : Bool) (t : Nat) (w : World) (h : ¬ (0 ≤ mark ∧ mark < 3)) : Calls Try.prog 28 #[.pointer (some ⟨t, 0, none⟩), .int .i64 page, .int .i64 mark, .bool on] w fun e w' => e = .returned (.int .i64 2) ∧ Below w.heap.size w w' := by
  have HI := Lib.hid (fun W => marked_any mark W)
  simp only [decide_eq_false h] at HI
  clear h
  go_enter Try.func28, Try.ntmps28
  go_wp2_with (go_at_call 41; refine (HI.out _).mono ?_; rintro e w1 ⟨rfl, rfl⟩)
  go_ret
  exact ⟨rfl, Below.refl _ _⟩
theorem Mark_out (page mark : Int) (on : Bool) (t : Nat) (w : World) (h : 0 ≤ mark ∧ mark < 3) (hp : ¬ (0 ≤ page ∧ page < 4096)) : Calls Try.prog 28 #[.pointer (some ⟨t, 0, none⟩), .int .i64 page, .int .i64 mark, .bool on] w fun e w' => e = .returned (.int .i64 3) ∧ Below w.heap.size w w' := by
  have HI := Lib.hid (fun W => marked_any mark W)
  simp only [decide_eq_true h] at HI
  clear h
  go_enter Try.func28, Try.ntmps28
  go_wp2_with (first | (go_at_call 41; refine (HI.out _).mono ?_; rintro e w1 ⟨rfl, rfl⟩) | (go_at_call 32; refine (find_out page t _ hp).mono ?_; rintro e w1 ⟨rfl, rfl⟩))
  go_ret
  exact ⟨rfl, Below.refl _ _⟩
theorem Mark_nf (g t : Nat) (mark : Int) (on : Bool) (σ : St) (many nodes : Int) (F : List Nat) (w : World) (hg : g < 4096) (h : Hp w t σ many nodes F) (hm : 0 ≤ mark ∧ mark < 3) (hn : Nf σ g) : Calls Try.prog 28 #[.pointer (some ⟨t, 0, none⟩), .int .i64 (g : Nat), .int .i64 mark, .bool on] w fun e w' => e = .returned (.int .i64 6) ∧ Below w.heap.size w w' := by
  have HI := Lib.hid (fun W => marked_any mark W)
  simp only [decide_eq_true hm] at HI
  have HN := Lib.hid (And.intro h hn)
  clear hm h hn
  go_enter Try.func28, Try.ntmps28
  go_wp2_with fail
  refine (HI.out _).mono ?_
  rintro e w1 ⟨rfl, rfl⟩
  go_wp2_with fail
  refine (find_nf g t σ many nodes F w hg HN.out.1 HN.out.2).mono ?_
  rintro e w2 ⟨hb2, rfl⟩
  have HB := Lib.hid hb2
  clear hb2
  go_wp2_with fail
  go_ret
  exact ⟨rfl, HB.out⟩
set_option maxRecDepth 100000 in
set_option maxHeartbeats 4000000 in
theorem Mark_ok (g t mk : Nat) (on : Bool) (σ : St) (M' : Nat → Nat → Nat → Bool) (many nodes : Int) (F : List Nat) (κ x : Nat) (l : List Nat) (w : World) (hg : g < 4096) (h : Hp w t σ many nodes F) (hA : At σ g κ l) (hE : σ.E κ (g / 8 ^ κ) = some x) (hmk : mk < 3)
    (hT : Tgt (setB σ.M κ (g / 8 ^ κ) mk on) M' g κ) :
    Calls Try.prog 28 #[.pointer (some ⟨t, 0, none⟩), .int .i64 (g : Nat), .int .i64 (mk : Nat), .bool on] w fun e w' => e = .returned (.int .i64 0) ∧ Hp w' t (σ.wM M') many nodes F ∧ Chg F F w w' := by
  have HMK := Lib.hid (fun W => marked_any (mk : Nat) W)
  simp only [decide_eq_true (by omega : (0 : Int) ≤ ((mk : Nat) : Int) ∧ ((mk : Nat) : Int) < 3)] at HMK
  have HT := Lib.hid hT
  clear hT
  have HH := Lib.hid h
  go_enter Try.func28, Try.ntmps28
  go_wp2_with fail
  refine (HMK.out _).mono ?_
  rintro e w1 ⟨rfl, rfl⟩
  go_wp2_with fail
  refine (find_found g t σ many nodes F κ x l w hg h hA hE).mono ?_
  rintro e w2 ⟨hb2, m, b, vb, cap, hf, rfl⟩
  clear h
  have H2 := Lib.hid (HH.out.below hb2)
  have HF := Lib.hid hf
  have hs8 : g / 8 ^ κ % 8 < 8 := by omega
  have hm3 : m ≤ 3 := by have := hf.mq; omega
  have hκ3 := hf.at_.le
  have HQ := Lib.hid (bel_eq (g := g) (k := κ))
  have hlst := hf.lst
  have hcell := H2.out.ecell hf.nb hs8
  rw [HQ.out, hf.ex] at hcell
  have hecell : w2.cell? ⟨b, 8 + g / 8 ^ κ % 8, none⟩ = some (.pointer (some ⟨x, 0, none⟩)) := hcell
  obtain ⟨hvc, hvf⟩ := H2.out.vcell hf.ex
  have HS := Lib.hid (fun W => (slot_any g κ hg hκ3 W).mono fun _ _ h => (⟨h.1, h.2.symm⟩ : _ ∧ _))
  have p0 : ¬ (((m : Nat) : Int) + 1 = 0) := by omega
  have p1 : IntKind.i64.wrap ((m : Nat) : Int) = ((m : Nat) : Int) := by rw [IntKind.wrap_i64]; omega
  have p2 : ((m : Nat) : Int) < ((m : Nat) : Int) + 1 := by omega
  have h1 : ((g / 8 ^ κ % 8 : Nat) : Int) < 8 := by omega
  have HB2 := Lib.hid hb2
  clear hcell hf hb2
  generalize hs : g / 8 ^ κ % 8 = s at *
  have HSS := Lib.hid hs
  clear hs
  have HVF := Lib.hid (show vb ∉ F from fun hm => by have := HH.out.lt vb hm; have := HF.out.vB; omega)
  have hnb := HF.out.nb
  have hmc := H2.out.mcell hnb hmk
  have hcl := byt_clear (fun s => σ.M κ (8 * (g / 8 ^ (κ + 1)) + s) mk) hs8
  have HB := Lib.hid (And.intro (H2.out.bit hnb hmk hs8 false).1.drew (H2.out.bit hnb hmk hs8 false).2.drew)
  have hfz : ∀ j, w2.frozen? ⟨b, j, none⟩ = false := nodeO_free (H2.out.nd _ _ _ hnb).1
  have HSQ2 := Lib.hid (HF.out.sq.chg HB.out.2 (fun b hb hm => by simp [vblk_some] at hb; subst hb; exact HVF.out hm))
  rw [HQ.out] at HB
  generalize hyE : byt (fun s => σ.M κ (8 * (g / 8 ^ (κ + 1)) + s) mk) = y at *
  generalize hy1E : byt (put (fun s => σ.M κ (8 * (g / 8 ^ (κ + 1)) + s) mk) s false) = y1 at *
  clear hyE hy1E
  have q2 : IntKind.u8.wrap (2 ^ s) = 2 ^ s := u8pow hs8
  have q3 : ((mk : Nat) : Int) < 3 := by omega
  go_upto_region 9 with fail
  go_still_tail 14, (by kernel_rfl)
  still_call (HS.out _)
  repeat still_step
  refine wpStill_nil ?_
  change wpList _ _ _ _ _ (World.drew _)
  have hmc' : w2.drew.cell? ⟨b, 16 + mk, none⟩ = some (.int .u8 y) := hmc
  have hfz' : ∀ j, w2.drew.frozen? ⟨b, j, none⟩ = false := hfz
  cases on with
  | false =>
    go_upto_region 12 with fail
    clear hmc hmc' hfz hfz' hcl hlst hecell hvc hvf
    generalize (w2.setCell ⟨b, 16 + mk, none⟩ (.int .u8 y1)).drew = w3 at *
    go_wp2_with fail
    refine (refresh_any g t κ m vb cap l _ M' many nodes F w3 hg HB.out.1 HF.out.at_.wM HF.out.mq HF.out.ln HSQ2.out HVF.out HT.out).mono ?_
    rintro e w5 ⟨rfl, h5, hc5⟩
    have H5 := Lib.hid (And.intro h5 hc5)
    clear h5 hc5
    go_wp2_with fail
    go_ret
    exact ⟨rfl, H5.out.1, (Chg.of_below (F := F) (HB2.out.mono (Nat.le_refl _))).trans (HB.out.2.trans H5.out.2)⟩
  | true =>
    have hmc3 := HB.out.1.mcell (k := κ) hnb hmk
    have HB3 := Lib.hid (And.intro (HB.out.1.bit (k := κ) hnb hmk hs8 true).1.drew (HB.out.1.bit (k := κ) hnb hmk hs8 true).2.drew)
    have hor := byt_set (fun s_1 => ({ N := σ.N, E := σ.E, V := σ.V, M := setB σ.M κ (g / 8 ^ κ) mk false } : St).M κ (8 * (g / 8 ^ (κ + 1)) + s_1) mk) hs8
    have hfz3 : ∀ j, (w2.setCell ⟨b, 16 + mk, none⟩ (.int .u8 y1)).drew.frozen? ⟨b, j, none⟩ = false := nodeO_free (HB.out.1.nd _ _ _ hnb).1
    have HSQ3 := Lib.hid (HSQ2.out.chg HB3.out.2 (fun b hb hm => by simp [vblk_some] at hb; subst hb; exact HVF.out hm))
    rw [HQ.out] at HB3
    generalize hy3E : byt (fun s_1 => ({ N := σ.N, E := σ.E, V := σ.V, M := setB σ.M κ (g / 8 ^ κ) mk false } : St).M κ (8 * (g / 8 ^ (κ + 1)) + s_1) mk) = y3 at *
    generalize hy4E : byt (put (fun s_1 => ({ N := σ.N, E := σ.E, V := σ.V, M := setB σ.M κ (g / 8 ^ κ) mk false } : St).M κ (8 * (g / 8 ^ (κ + 1)) + s_1) mk) s true) = y4 at *
    clear hy3E hy4E
    go_upto_region 11 with fail
    clear hmc hmc' hfz hfz' hcl hlst hecell hvc hvf
    generalize (w2.setCell ⟨b, 16 + mk, none⟩ (.int .u8 y1)).drew = w3 at *
    go_still_tail 14, (by kernel_rfl)
    still_call (HS.out _)
    repeat still_step
    refine wpStill_nil ?_
    change wpList _ _ _ _ _ (World.drew _)
    have hmc' : w3.drew.cell? ⟨b, 16 + mk, none⟩ = some (.int .u8 y3) := hmc3
    have hfz' : ∀ j, w3.drew.frozen? ⟨b, j, none⟩ = false := hfz3
    go_upto_region 12 with fail
    clear hmc3 hmc' hfz3 hfz' hor
    generalize (w3.setCell ⟨b, 16 + mk, none⟩ (.int .u8 y4)).drew = w4 at *
    go_wp2_with fail
    refine (refresh_any g t κ m vb cap l _ M' many nodes F w4 hg HB3.out.1 HF.out.at_.wM HF.out.mq HF.out.ln HSQ3.out HVF.out (by have := HT.out; rw [← setB_twice _ _ _ _ false true] at this; exact this)).mono ?_
    rintro e w5 ⟨rfl, h5, hc5⟩
    have H5 := Lib.hid (And.intro h5 hc5)
    clear h5 hc5
    go_wp2_with fail
    go_ret
    exact ⟨rfl, H5.out.1, (Chg.of_below (F := F) (HB2.out.mono (Nat.le_refl _))).trans (HB.out.2.trans (HB3.out.2.trans H5.out.2))⟩

end Go.Proofs.Ytdnnfoojdfmajaa
