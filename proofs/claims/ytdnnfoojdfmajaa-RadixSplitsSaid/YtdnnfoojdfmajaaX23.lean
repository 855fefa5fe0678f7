/- Parts of the proofs of layer 19 (radix): contracts of its functions, and the laws' walks. -/
import Derived.Test.YtdnnfoojdfmajaaProg
import Derived.WalkKit
import Derived.WalkSpells
import Derived.WalkLawsBesides
import Derived.BigQuiet
import Derived.Deep.QuietTactic
import Derived.Lib.Hide
import Derived.Deep.RegionHeld3
import Derived.Deep.DeepCutAuto
import Derived.KernelRfl
import Derived.Deep.OwnRows
import Derived.Laws.CopyOwn
import Derived.Laws.CopyRow
import Derived.StillTailTactics
import Derived.Deep.RegionLaw
import Derived.Handy
import Derived.Deep.CutRange
import Derived.Deep.CutBlock
import Derived.Test.YtdnnfoojdfmajaaX22
namespace Go.Proofs.Ytdnnfoojdfmajaa
open Go.RowKit
set_option linter.unusedVariables false
set_option linter.unusedSimpArgs false

/-- The path's nodes from the level c up stand. -/
structure Gr (σ σ' : St) (g c : Nat) : Prop where
  E : σ'.E = σ.E
  V : σ'.V = σ.V
  M : σ'.M = σ.M
  off : ∀ j p, ¬ (c ≤ j ∧ j ≤ 3 ∧ p = g / 8 ^ (j + 1)) → σ'.N j p = σ.N j p
  on : ∀ j, c ≤ j → j ≤ 3 → ∃ b, σ'.N j (g / 8 ^ (j + 1)) = some b
theorem Gr.refl (σ : St) (g : Nat) : Gr σ σ g 4 := ⟨rfl, rfl, rfl, fun _ _ _ => rfl, fun j h1 h2 => by omega⟩
theorem Gr.add {σ σ' : St} {g c b : Nat} (h : Gr σ σ' g (c + 1)) (hc : c ≤ 3) : Gr σ {σ' with N := setO σ'.N c (g / 8 ^ (c + 1)) (some b)} g c :=
  ⟨h.E, h.V, h.M, fun j p hn => (setO_ne (fun e => hn ⟨by omega, by omega, by rw [e.2, e.1]⟩)).trans (h.off j p (fun e => hn ⟨by omega, e.2⟩)), fun j h1 h2 => by
    by_cases hj : j = c
    · subst hj; exact ⟨b, setO_at _ _ _ _⟩
    · obtain ⟨b', hb'⟩ := h.on j (by omega) h2
      exact ⟨b', (setO_ne (fun e => hj e.1)).trans hb'⟩⟩
theorem Gr.keep {σ σ' : St} {g c b : Nat} (h : Gr σ σ' g (c + 1)) (hb : σ'.N c (g / 8 ^ (c + 1)) = some b) : Gr σ σ' g c :=
  ⟨h.E, h.V, h.M, fun j p hn => h.off j p (fun e => hn ⟨by omega, e.2⟩), fun j h1 h2 => by
    by_cases hj : j = c
    · subst hj; exact ⟨b, hb⟩
    · exact h.on j (by omega) h2⟩
theorem Ab.par {σ : St} {L : List X} (h : Ab σ L) {k p : Nat} (hk : k < 3) (hn : σ.N (k + 1) (p / 8) = none) : σ.N k p = none := by
  cases hb : σ.N k p with
  | none => rfl
  | some b =>
    obtain ⟨_, x, hx, h1, h2⟩ := (h.n k p).1 ⟨b, hb⟩
    obtain ⟨c, hc⟩ := (h.n (k + 1) (p / 8)).2 ⟨by omega, x, hx, by omega, by rw [div_step, h2]⟩
    rw [hn] at hc
    cases hc
theorem Ab.epar {σ : St} {L : List X} (h : Ab σ L) (hg : Good L) {k q : Nat} (hk : k ≤ 3) (hn : σ.N k (q / 8) = none) : σ.E k q = none := by
  cases hb : σ.E k q with
  | none => rfl
  | some b =>
    obtain ⟨x, hx, h1, h2⟩ := (h.e k q).1 ⟨b, hb⟩
    obtain ⟨c, hc⟩ := (h.n k (q / 8)).2 ⟨hk, x, hx, by omega, by rw [div_step, h2, Nat.mul_div_cancel _ (Nat.pos_of_ne_zero (by simp))]⟩
    rw [hn] at hc
    cases hc
theorem Ab.mpar {σ : St} {L : List X} (h : Ab σ L) {k q m : Nat} (hk : k ≤ 3) (hm : m < 3) (hn : σ.N k (q / 8) = none) : σ.M k q m = false := by
  cases hb : σ.M k q m with
  | false => rfl
  | true =>
    obtain ⟨x, hx, h1, h2, _⟩ := (h.m k q m hk hm).1 hb
    obtain ⟨c, hc⟩ := (h.n k (q / 8)).2 ⟨hk, x, hx, h1, by rw [div_step, h2]⟩
    rw [hn] at hc
    cases hc
theorem Ab.belpar {σ : St} {L : List X} (h : Ab σ L) {k q : Nat} (hk : k ≤ 3) (hn : σ.N k (q / 8) = none) : σ.bel k q = none := by
  unfold St.bel
  by_cases h0 : k = 0
  · rw [if_pos h0]
  · rw [if_neg h0]
    exact h.par (by omega) (by rw [show k - 1 + 1 = k from by omega]; exact hn)
/-- No entry meets the block. -/
theorem free_ent {σ : St} {L : List X} (h : Ab σ L) (hg : Good L) {g k : Nat} (hk : k ≤ 2) (ha : g % 8 ^ k = 0) (hfree : ∀ y ∈ L, ¬ (g < y.p + 8 ^ y.k ∧ y.p < g + 8 ^ k)) {c : Nat} (hc : k ≤ c) (hc3 : c ≤ 3) : σ.E c (g / 8 ^ c) = none := by
  cases he : σ.E c (g / 8 ^ c) with
  | none => rfl
  | some e =>
    obtain ⟨x, hx, hxk, hxp, _⟩ := h.slot_ent hg hc3 he
    have h1 := Nat.div_add_mod g (8 ^ c)
    have h2 := Nat.mod_lt g (Nat.pos_of_ne_zero (by simp) : 0 < 8 ^ c)
    have h3 : 0 < 8 ^ k := Nat.pos_of_ne_zero (by simp)
    rw [Nat.mul_comm] at h1
    exact absurd ⟨by rw [hxk]; omega, by omega⟩ (hfree x hx)
theorem free_bel {σ : St} {L : List X} (h : Ab σ L) (hg : Good L) {g k : Nat} (hk : k ≤ 2) (ha : g % 8 ^ k = 0) (hfree : ∀ y ∈ L, ¬ (g < y.p + 8 ^ y.k ∧ y.p < g + 8 ^ k)) : σ.bel k (g / 8 ^ k) = none := by
  cases he : σ.bel k (g / 8 ^ k) with
  | none => rfl
  | some e =>
    unfold St.bel at he
    by_cases h0 : k = 0
    · rw [if_pos h0] at he; cases he
    · rw [if_neg h0] at he
      obtain ⟨_, x, hx, h1, h2⟩ := (h.n _ _).1 ⟨e, he⟩
      rw [show k - 1 + 1 = k from by omega] at h2
      have h3 := (hg.1 x hx).slot (by omega) (by omega : x.k ≤ k) h2
      have h4 : g / 8 ^ k * 8 ^ k = g := by have := Nat.div_add_mod g (8 ^ k); rw [ha, Nat.add_zero, Nat.mul_comm] at this; exact this
      have h5 : (g / 8 ^ k + 1) * 8 ^ k = g + 8 ^ k := by rw [Nat.add_mul, h4, Nat.one_mul]
      have h6 : 0 < 8 ^ x.k := Nat.pos_of_ne_zero (by simp)
      exact absurd ⟨by omega, by omega⟩ (hfree x hx)
theorem level_at (k : Nat) (o : Int) (hk : k ≤ 2) (ho : o = 3 * ((k : Nat) : Int)) (w : World) : Calls Try.prog 45 #[.int .i64 o] w fun e w' => e = .returned (.int .i64 (k : Nat)) ∧ w = w' := by
  have := level_any k (by omega) w
  rw [show ((3 * k : Nat) : Int) = o from by omega] at this
  exact this
theorem frz {w w' : World} {b j : Nat} (h : Below w.heap.size w w') (hb : b < w.heap.size) (hf : w.frozen? ⟨b, j, none⟩ = false) : w'.frozen? ⟨b, j, none⟩ = false := (h.frozen hb).trans hf
set_option maxRecDepth 100000 in
set_option maxHeartbeats 16000000 in
theorem Set_ok (g k : Nat) (o v : Int) (t : Nat) (σ : St) (L : List X) (many nodes : Int) (F : List Nat) (w : World) (hp : PreS g k o v) (ha : g % 8 ^ k = 0) (hab : Ab σ L) (hgd : Good L) (h : Hp w t σ many nodes F)
    (hfree : ∀ y ∈ L, ¬ (g < y.p + 8 ^ y.k ∧ y.p < g + 8 ^ k)) (hmn : -9000000 ≤ many ∧ many ≤ 9000000) (hcn : nodes = (cntN σ.N : Nat)) : Calls Try.prog 26 #[.pointer (some ⟨t, 0, none⟩), .int .i64 (g : Nat), .int .i64 o, .int .i64 v] w fun e w' => e = .returned (.int .i64 0) ∧
      ∃ σ1 F' e, Gr σ σ1 g k ∧ Hp w' t {σ1 with E := setO σ1.E k (g / 8 ^ k) (some e), V := fun k' q' => if k' = k ∧ q' = g / 8 ^ k then v else σ1.V k' q'} (many + 1) (cntN σ1.N : Nat) F' ∧ Chg F F' w w' := by
  obtain ⟨ho, hk, hg, hv⟩ := hp
  have HI := Lib.hid (fun W => right_any o W)
  simp only [decide_eq_true (by omega : o = 0 ∨ o = 3 ∨ o = 6)] at HI
  have HJ := Lib.hid (fun W => is_any (g : Nat) W)
  simp only [decide_eq_true (by omega : (0 : Int) ≤ ((g : Nat) : Int) ∧ ((g : Nat) : Int) < 4096)] at HJ
  have HK := Lib.hid (fun W => small_any v W)
  simp only [decide_eq_true hv] at HK
  have HE := Lib.hid (fun W => G.even_any (g : Nat) o W (by omega) (by omega))
  simp only [ho, evn_eq hk, decide_eq_true ha] at HE
  rw [← ho] at HE
  have HLV := Lib.hid (fun W => level_at k o hk ho W)
  have HN := Lib.hid (Next_any (g : Nat) (-1) t σ L many nodes F w (by decide) hab hgd h)
  have hsh : wrap64 (2 ^ o.toNat) = ((8 ^ k : Nat) : Int) := by rw [ho]; rcases k3 hk with rfl | rfl | rfl <;> (rw [IntWalk.wrap64_in] <;> decide)
  have hlt : 8 ^ k ≤ 64 := by rcases k3 hk with rfl | rfl | rfl <;> decide
  have ho0 : 0 ≤ o := by omega
  have ho6 : o ≤ 6 := by omega
  have HX := Lib.hid (And.intro hab (And.intro hgd (And.intro hfree (And.intro ha (And.intro h hcn)))))
  obtain ⟨sz, hsz⟩ : ∃ sz, 8 ^ k = sz := ⟨_, rfl⟩
  have HSZ := Lib.hid hsz
  rw [hsz] at hsh hlt
  clear ho hv ha hfree hab hgd h hsz hcn
  go_enter Try.func26, Try.ntmps26
  go_wp2_with (first | (go_at_call 42; refine (HI.out _).mono ?_; rintro e w1 ⟨rfl, rfl⟩) | (go_at_call 43; refine (HJ.out _).mono ?_; rintro e w1 ⟨rfl, rfl⟩) | (go_at_call 38; refine (HK.out _).mono ?_; rintro e w1 ⟨rfl, rfl⟩) | (go_at_call 44; refine (HE.out _).mono ?_; rintro e w1 ⟨rfl, rfl⟩))
  refine HN.out.mono ?_
  rintro e w2 ⟨hb2, hnx⟩
  obtain ⟨r0, r1, c, hr, rfl⟩ : ∃ r0 r1 c, (c ≠ 0 ∨ (0 ≤ r0 ∧ r0 < 4096 ∧ ¬ (r0 < ((g : Nat) : Int) + ((sz : Nat) : Int)))) ∧ e = .returned (.tuple #[.agg #[.int .i64 r0, .int .i64 r1], .int .i64 c]) := by
    rcases hnx with ⟨x, hx, hxo, hmin, rfl⟩ | ⟨hnone, rfl⟩
    · refine ⟨_, _, _, .inr ⟨by omega, by have := (HX.out.2.1.1 x hx).lt; omega, fun hlt => ?_⟩, rfl⟩
      have := HX.out.2.2.1 x hx
      rw [HSZ.out] at this
      have h2 := hxo.1
      exact this ⟨by omega, by omega⟩
    · exact ⟨0, 0, 6, .inl (by decide), rfl⟩
  have hA : Below w2.heap.size w2 (w2.alloc (.cells #[.int .i64 r0, .int .i64 r1] 29)) := (Below.refl _ _).alloc (Nat.le_refl _) _
  have hz := heap_alloc_new w2 (.cells #[.int .i64 r0, .int .i64 r1] 29)
  have z0 : (w2.alloc (.cells #[.int .i64 r0, .int .i64 r1] 29)).cell? ⟨w2.heap.size, 0, none⟩ = some (.int .i64 r0) := cell_of_row _ _ 0 _ 29 _ hz
  have HA := Lib.hid (hb2.trans (hA.mono hb2.size))
  clear hA hz hb2 hnx
  go_upto_region 10 with fail
  generalize w2.alloc (.cells #[.int .i64 r0, .int .i64 r1] 29) = w3 at *
  generalize w2.heap.size = B9 at *
  go_cut [51] (fun s51 wc => s51 = .bool false ∧ ∃ n, wc = w3.drewN n)
  case first =>
    by_cases hc : c = 0
    · subst hc
      obtain ⟨ha0, ha1, ha2⟩ := hr.resolve_left (by decide)
      go_quiet (fail)
      go_wp2_with fail
      go_meet
      exact ⟨by rw [decide_eq_false (by omega)], nq, rfl⟩
    · go_quiet (fail)
      go_wp2_with fail
      go_meet
      exact ⟨rfl, nq, rfl⟩
  case rest =>
    obtain ⟨rfl, n, rfl⟩ := hcut
    have H3 := Lib.hid (HX.out.2.2.2.2.1.below (below_drewN HA.out n))
    have HB3 := Lib.hid (below_drewN HA.out n)
    clear z0 hr ho0 ho6 hlt hsh HA
    generalize w3.drewN n = w4 at *
    obtain ⟨t0, t1, t2, tf⟩ := H3.out.tcells
    obtain ⟨ro, hro⟩ : ∃ ro, σ.N 3 0 = ro := ⟨_, rfl⟩
    rw [hro] at t0
    have HRO := Lib.hid hro
    clear hro
    go_upto_region 12 with fail
    go_cut [56] (fun s56 wx => s56 = .bool ro.isNone ∧ wx = w4)
    case first =>
      cases ro with
      | none =>
        have t0' : w4.cell? ⟨t, 0, none⟩ = some (.pointer none) := t0
        clear t0
        go_wp2_with fail
        go_meet
        exact ⟨rfl, rfl⟩
      | some b =>
        have t0' : w4.cell? ⟨t, 0, none⟩ = some (.pointer (some ⟨b, 0, none⟩)) := t0
        clear t0
        go_wp2_with fail
        go_meet
        exact ⟨rfl, rfl⟩
    case rest =>
      obtain ⟨rfl, rfl⟩ := hcut
      go_upto_if 56 with fail
      go_cut [] (fun wx => ∃ σ1 F1 b0, RowKit.Hid (Gr σ σ1 g 3 ∧ Hp wx t σ1 many (cntN σ1.N : Nat) F1 ∧ σ1.N 3 0 = some b0 ∧ Chg F F1 w wx))
      case first =>
        have hg4 : g / 8 ^ 4 = 0 := by show g / 4096 = 0; omega
        cases ro with
        | some b =>
          go_wp2_with fail
          go_meet
          exact ⟨σ, F, b, Lib.hid ⟨(Gr.refl σ g).keep (by rw [show g / 8 ^ (3 + 1) = 0 from hg4]; exact HRO.out), by rw [← HX.out.2.2.2.2.2]; exact H3.out, HRO.out, (Chg.of_below (F := F) (HB3.out.mono (Nat.le_refl _)))⟩⟩
        | none =>
          have t0' : wc.cell? ⟨t, 0, none⟩ = some (.pointer none) := t0
          clear t0
          have hpar : ∀ q, q / 8 = 0 → σ.N 3 (q / 8) = none := fun q hq => by rw [hq]; exact HRO.out
          have HR := Lib.hid (H3.out.addRoot HRO.out (fun p => HX.out.1.n3 (by omega)) (fun i hi => HX.out.1.belpar (Nat.le_refl _) (hpar i (by omega))) (fun i hi => HX.out.1.epar HX.out.2.1 (Nat.le_refl _) (hpar i (by omega))) (fun i hi m hm => HX.out.1.mpar (Nat.le_refl _) hm (hpar i (by omega))))
          have hA : Below wc.heap.size wc (wc.alloc (.cells #[.pointer none, .pointer none, .pointer none, .pointer none, .pointer none, .pointer none, .pointer none, .pointer none, .pointer none, .pointer none, .pointer none, .pointer none, .pointer none, .pointer none, .pointer none, .pointer none, .int .u8 0, .int .u8 0, .int .u8 0, .int .i64 0] 67)) := (Below.refl _ _).alloc (Nat.le_refl _) _
          have htl : t < wc.heap.size := World.block_lt_of_cell? wc _ t2
          have u0 := cell_keep hA t0'
          have u2 := cell_keep hA t2
          have uf : ∀ j, (wc.alloc (.cells #[.pointer none, .pointer none, .pointer none, .pointer none, .pointer none, .pointer none, .pointer none, .pointer none, .pointer none, .pointer none, .pointer none, .pointer none, .pointer none, .pointer none, .pointer none, .pointer none, .int .u8 0, .int .u8 0, .int .u8 0, .int .i64 0] 67)).frozen? ⟨t, j, none⟩ = false := fun j => frz hA htl (tf j)
          have hcl := HX.out.2.2.2.2.2
          have hcl2 := cntN_le σ.N
          have q1 : IntKind.i64.wrap (nodes + 1) = nodes + 1 := by rw [IntKind.wrap_i64]; omega
          have HR2 := Lib.hid (HR.out.setNodes (nodes + 1))
          have HBA := Lib.hid (HB3.out.trans (hA.mono HB3.out.size))
          have HCN := Lib.hid (show ((cntN (setO σ.N 3 0 (some wc.heap.size)) : Nat) : Int) = nodes + 1 from by rw [cntN_some ⟨by omega, by decide⟩ HRO.out]; omega)
          have htF := H3.out.tF
          have HCH := Lib.hid (show Chg F (wc.heap.size :: F) w (((wc.alloc (.cells #[.pointer none, .pointer none, .pointer none, .pointer none, .pointer none, .pointer none, .pointer none, .pointer none, .pointer none, .pointer none, .pointer none, .pointer none, .pointer none, .pointer none, .pointer none, .pointer none, .int .u8 0, .int .u8 0, .int .u8 0, .int .i64 0] 67)).setCell ⟨t, 0, none⟩ (.pointer (some ⟨wc.heap.size, 0, none⟩))).setCell ⟨t, 2, none⟩ (.int .i64 (nodes + 1))) from by
            have h1 : Chg F F w (wc.alloc (.cells #[.pointer none, .pointer none, .pointer none, .pointer none, .pointer none, .pointer none, .pointer none, .pointer none, .pointer none, .pointer none, .pointer none, .pointer none, .pointer none, .pointer none, .pointer none, .pointer none, .int .u8 0, .int .u8 0, .int .u8 0, .int .i64 0] 67)) := Chg.of_below (F := F) (HBA.out.mono (Nat.le_refl _))
            have h2 := (h1.setCell t 0 (.pointer (some ⟨wc.heap.size, 0, none⟩)) htF).setCell t 2 (.int .i64 (nodes + 1)) htF
            refine ⟨h2.1, h2.2.1, h2.2.2.1, h2.2.2.2.1, h2.2.2.2.2.1, fun b' hb' => ?_⟩
            rcases List.mem_cons.1 hb' with rfl | hb'
            · exact .inr HB3.out.size
            · exact .inl hb')
          clear hA hcl hcl2 htF htl t0' t1 t2 tf
          go_wp2_with fail
          go_meet
          refine ⟨_, _, wc.heap.size, Lib.hid ⟨?_, by rw [show ((cntN ({σ with N := setO σ.N 3 0 (some wc.heap.size)} : St).N : Nat) : Int) = nodes + 1 from HCN.out]; exact HR2.out.1, (show setO σ.N 3 0 (some wc.heap.size) 3 0 = some wc.heap.size from setO_at _ _ _ _), HCH.out⟩⟩
          have := (Gr.refl σ g).add (c := 3) (b := wc.heap.size) (Nat.le_refl _)
          rw [show g / 8 ^ (3 + 1) = 0 from hg4] at this
          exact this
      case rest =>
        obtain ⟨σ1, F1, b0, HS⟩ := hcut
        obtain ⟨t0, t1, t2, tf⟩ := HS.out.2.1.tcells
        rw [HS.out.2.2.1] at t0
        have t0' : wc.cell? ⟨t, 0, none⟩ = some (.pointer (some ⟨b0, 0, none⟩)) := t0
        clear t0
        go_wp2_with fail
        clear t0' t1 t2 tf
        have HS2 := Lib.hid (And.intro HS.out.1 (And.intro HS.out.2.1 (And.intro (show σ1.N 3 (g / 8 ^ (3 + 1)) = some b0 from by rw [show g / 8 ^ (3 + 1) = 0 from by show g / 4096 = 0; omega]; exact HS.out.2.2.1) HS.out.2.2.2)))
        clear HS HRO H3
        go_loopw [11, 12] (fun s11 s12 wx => ∃ c : Nat, k ≤ c ∧ c ≤ 3 ∧ s12 = .int .i64 (c : Nat) ∧ ∃ b : Nat, s11 = .pointer (some ⟨b, 0, none⟩) ∧ ∃ σ1 F1, RowKit.Hid (Gr σ σ1 g c ∧ Hp wx t σ1 many (cntN σ1.N : Nat) F1 ∧ σ1.N c (g / 8 ^ (c + 1)) = some b ∧ Chg F F1 w wx)) (fun _ s _ => (intOf s).toNat)
        case atStart => exact ⟨3, by omega, Nat.le_refl _, rfl, b0, rfl, σ1, F1, HS2⟩
        case round =>
          obtain ⟨c, hck, hc3, rfl, b, rfl, σ2, F2, HL⟩ := hrel
          clear HS2
          by_cases hck2 : k < c
          · have hcI : ((k : Nat) : Int) < ((c : Nat) : Int) := by omega
            have HSL := Lib.hid (fun W => slot_any g c hg hc3 W)
            have HQ := Lib.hid (bel_eq (g := g) (k := c))
            have hs8 : g / 8 ^ c % 8 < 8 := by omega
            generalize hs : g / 8 ^ c % 8 = s at *
            have hsI : ((s : Nat) : Int) < 8 := by omega
            have hbc := HL.out.2.1.bcell HL.out.2.2.1 hs8
            obtain ⟨d, rfl⟩ : ∃ d, c = d + 1 := ⟨c - 1, by omega⟩
            have hbel : σ2.bel (d + 1) (8 * (g / 8 ^ (d + 1 + 1)) + s) = σ2.N d (g / 8 ^ (d + 1)) := by rw [HQ.out]; unfold St.bel; rw [if_neg (by omega), Nat.add_sub_cancel]
            rw [hbel] at hbc
            have hfz : ∀ j, wr.frozen? ⟨b, j, none⟩ = false := nodeO_free (HL.out.2.1.nd _ _ _ HL.out.2.2.1).1
            clear hs hbel
            cases hNd : σ2.N d (g / 8 ^ (d + 1)) with
            | some b2 =>
              rw [hNd] at hbc
              have hbc' : wr.cell? ⟨b, s, none⟩ = some (.pointer (some ⟨b2, 0, none⟩)) := hbc
              have HND := Lib.hid hNd
              clear hbc hNd
              go_wp2_with (first | (go_at_call 45; refine (HLV.out _).mono ?_; rintro e w5 ⟨rfl, rfl⟩) | (go_at_call 33; refine (HSL.out _).mono ?_; rintro e w5 ⟨rfl, rfl⟩))
              exact ⟨⟨d, by omega, by omega, by simp, b2, rfl, σ2, F2, Lib.hid ⟨HL.out.1.keep HND.out, HL.out.2.1, HND.out, HL.out.2.2.2⟩⟩, by simp [intOf]⟩
            | none =>
              rw [hNd] at hbc
              have hbc' : wr.cell? ⟨b, s, none⟩ = some (.pointer none) := hbc
              have HND := Lib.hid hNd
              clear hbc hNd
              go_upto_region 21 with (first | (go_at_call 45; refine (HLV.out _).mono ?_; rintro e w5 ⟨rfl, rfl⟩) | (go_at_call 33; refine (HSL.out _).mono ?_; rintro e w5 ⟨rfl, rfl⟩))
              have hN0 : σ.N d (g / 8 ^ (d + 1)) = none := by rw [← HL.out.1.off d _ (by omega)]; exact HND.out
              have hb1 : ∀ i, i < 8 → σ2.bel d (8 * (g / 8 ^ (d + 1)) + i) = none := fun i hi => by
                have h1 := HX.out.1.belpar (k := d) (q := 8 * (g / 8 ^ (d + 1)) + i) (by omega) (by rw [show (8 * (g / 8 ^ (d + 1)) + i) / 8 = g / 8 ^ (d + 1) from by omega]; exact hN0)
                unfold St.bel at h1 ⊢
                by_cases h0 : d = 0
                · rw [if_pos h0]
                · rw [if_neg h0] at h1 ⊢
                  rw [HL.out.1.off _ _ (by omega)]
                  exact h1
              have HAN := Lib.hid (HL.out.2.1.addN (k := d) (P := g / 8 ^ (d + 1 + 1)) (by omega) HL.out.2.2.1 hs8 (by rw [HQ.out]; exact HND.out) (by rw [HQ.out, HL.out.1.E]; exact free_ent HX.out.1 HX.out.2.1 hk HX.out.2.2.2.1 HX.out.2.2.1 (by omega) hc3)
                (by rw [HQ.out]; exact hb1) (by rw [HQ.out, HL.out.1.E]; exact fun i hi => HX.out.1.epar HX.out.2.1 (by omega) (by rw [show (8 * (g / 8 ^ (d + 1)) + i) / 8 = g / 8 ^ (d + 1) from by omega]; exact hN0)) (by rw [HQ.out, HL.out.1.M]; exact fun i hi m hm => HX.out.1.mpar (by omega) hm (by rw [show (8 * (g / 8 ^ (d + 1)) + i) / 8 = g / 8 ^ (d + 1) from by omega]; exact hN0)))
              rw [HQ.out] at HAN
              have huc := HL.out.2.1.ucell HL.out.2.2.1
              have hu8 := cnt8_le fun s => σ2.occ (d + 1) (8 * (g / 8 ^ (d + 1 + 1)) + s)
              obtain ⟨u, hu⟩ : ∃ u, σ2.used (d + 1) (g / 8 ^ (d + 1 + 1)) = u := ⟨_, rfl⟩
              have hu8' : u ≤ 8 := by rw [← hu]; exact hu8
              rw [hu] at huc HAN
              obtain ⟨t0, t1, t2, tf⟩ := HL.out.2.1.tcells
              have hcn := cntN_le σ2.N
              have HCN := Lib.hid (show ((cntN (setO σ2.N d (g / 8 ^ (d + 1)) (some wr.heap.size)) : Nat) : Int) = ((cntN σ2.N : Nat) : Int) + 1 from by rw [cntN_some (path_in hg (by omega)) HND.out]; simp)
              generalize cntN σ2.N = cn at *
              have q1 : IntKind.i64.wrap (((u : Nat) : Int) + 1) = ((u : Nat) : Int) + 1 := by rw [IntKind.wrap_i64]; omega
              have q2 : IntKind.i64.wrap (((cn : Nat) : Int) + 1) = ((cn : Nat) : Int) + 1 := by rw [IntKind.wrap_i64]; omega
              have HAN2 := Lib.hid (HAN.out.setNodes (((cn : Nat) : Int) + 1))
              have hA : Below wr.heap.size wr (wr.alloc (.cells #[.pointer none, .pointer none, .pointer none, .pointer none, .pointer none, .pointer none, .pointer none, .pointer none, .pointer none, .pointer none, .pointer none, .pointer none, .pointer none, .pointer none, .pointer none, .pointer none, .int .u8 0, .int .u8 0, .int .u8 0, .int .i64 0] 67)) := (Below.refl _ _).alloc (Nat.le_refl _) _
              have hbl : b < wr.heap.size := HL.out.2.1.lt b (HL.out.2.1.nd _ _ _ HL.out.2.2.1).2
              have htl : t < wr.heap.size := HL.out.2.1.lt t HL.out.2.1.tF
              have a0 := cell_keep hA hbc'
              have a1 := cell_keep hA huc
              have a2 := cell_keep hA t2
              have af : ∀ j, (wr.alloc (.cells #[.pointer none, .pointer none, .pointer none, .pointer none, .pointer none, .pointer none, .pointer none, .pointer none, .pointer none, .pointer none, .pointer none, .pointer none, .pointer none, .pointer none, .pointer none, .pointer none, .int .u8 0, .int .u8 0, .int .u8 0, .int .i64 0] 67)).frozen? ⟨b, j, none⟩ = false := fun j => frz hA hbl (hfz j)
              have atf : ∀ j, (wr.alloc (.cells #[.pointer none, .pointer none, .pointer none, .pointer none, .pointer none, .pointer none, .pointer none, .pointer none, .pointer none, .pointer none, .pointer none, .pointer none, .pointer none, .pointer none, .pointer none, .pointer none, .int .u8 0, .int .u8 0, .int .u8 0, .int .i64 0] 67)).frozen? ⟨t, j, none⟩ = false := fun j => frz hA htl (tf j)
              have hbt : b ≠ t := HL.out.2.1.nt HL.out.2.2.1
              have hbF := (HL.out.2.1.nd _ _ _ HL.out.2.2.1).2
              have HCH := Lib.hid (show Chg F (wr.heap.size :: F2) w ((((wr.alloc (.cells #[.pointer none, .pointer none, .pointer none, .pointer none, .pointer none, .pointer none, .pointer none, .pointer none, .pointer none, .pointer none, .pointer none, .pointer none, .pointer none, .pointer none, .pointer none, .pointer none, .int .u8 0, .int .u8 0, .int .u8 0, .int .i64 0] 67)).setCell ⟨b, s, none⟩ (.pointer (some ⟨wr.heap.size, 0, none⟩))).setCell ⟨b, 19, none⟩ (.int .i64 (((u : Nat) : Int) + 1))).setCell ⟨t, 2, none⟩ (.int .i64 (((cn : Nat) : Int) + 1))) from by
                have h1 : Chg F2 F2 wr (wr.alloc (.cells #[.pointer none, .pointer none, .pointer none, .pointer none, .pointer none, .pointer none, .pointer none, .pointer none, .pointer none, .pointer none, .pointer none, .pointer none, .pointer none, .pointer none, .pointer none, .pointer none, .int .u8 0, .int .u8 0, .int .u8 0, .int .i64 0] 67)) := Chg.of_below (F := F2) hA
                have h2 := ((h1.setCell b s (.pointer (some ⟨wr.heap.size, 0, none⟩)) hbF).setCell b 19 (.int .i64 (((u : Nat) : Int) + 1)) hbF).setCell t 2 (.int .i64 (((cn : Nat) : Int) + 1)) HL.out.2.1.tF
                refine HL.out.2.2.2.trans ⟨h2.1, h2.2.1, h2.2.2.1, h2.2.2.2.1, h2.2.2.2.2.1, fun b' hb' => ?_⟩
                rcases List.mem_cons.1 hb' with rfl | hb'
                · exact .inr (Nat.le_refl _)
                · exact .inl hb')
              clear hA hbl htl hcn hu8 hbF hN0 hb1 hbc' huc t0 t1 t2 tf hfz hu
              go_wp2_with fail
              exact ⟨⟨d, by omega, by omega, by simp, wr.heap.size, rfl, _, _, Lib.hid ⟨HL.out.1.add (by omega), by rw [show ((cntN ({σ2 with N := setO σ2.N d (g / 8 ^ (d + 1)) (some wr.heap.size)} : St).N : Nat) : Int) = ((cn : Nat) : Int) + 1 from HCN.out]; exact HAN2.out.1, (show setO σ2.N d (g / 8 ^ (d + 1)) (some wr.heap.size) d (g / 8 ^ (d + 1)) = some wr.heap.size from setO_at _ _ _ _), HCH.out⟩⟩, by simp [intOf]⟩
          · obtain rfl : c = k := by omega
            have HSL := Lib.hid (fun W => slot_any g c hg (by omega) W)
            have HQ := Lib.hid (bel_eq (g := g) (k := c))
            have hs8 : g / 8 ^ c % 8 < 8 := by omega
            generalize hs : g / 8 ^ c % 8 = s at *
            have hsI : ((s : Nat) : Int) < 8 := by omega
            have hE0 : σ2.E c (8 * (g / 8 ^ (c + 1)) + s) = none := by rw [HQ.out, HL.out.1.E]; exact free_ent HX.out.1 HX.out.2.1 hk HX.out.2.2.2.1 HX.out.2.2.1 (Nat.le_refl _) hc3
            have hB0 : σ2.bel c (8 * (g / 8 ^ (c + 1)) + s) = none := by
              rw [HQ.out]
              have h1 := free_bel HX.out.1 HX.out.2.1 hk HX.out.2.2.2.1 HX.out.2.2.1
              unfold St.bel at h1 ⊢
              by_cases h0 : c = 0
              · rw [if_pos h0]
              · rw [if_neg h0] at h1 ⊢
                rw [HL.out.1.off _ _ (by omega)]
                exact h1
            have HAE := Lib.hid (HL.out.2.1.addE v HL.out.2.2.1 hs8 hB0 hE0)
            rw [HQ.out] at HAE
            have hec := HL.out.2.1.ecell HL.out.2.2.1 hs8
            rw [hE0] at hec
            have huc := HL.out.2.1.ucell HL.out.2.2.1
            have hu8 := cnt8_le fun s => σ2.occ c (8 * (g / 8 ^ (c + 1)) + s)
            obtain ⟨u, hu⟩ : ∃ u, σ2.used c (g / 8 ^ (c + 1)) = u := ⟨_, rfl⟩
            have hu8' : u ≤ 8 := by rw [← hu]; exact hu8
            rw [hu] at huc HAE
            obtain ⟨t0, t1, t2, tf⟩ := HL.out.2.1.tcells
            have q1 : IntKind.i64.wrap (((u : Nat) : Int) + 1) = ((u : Nat) : Int) + 1 := by rw [IntKind.wrap_i64]; omega
            have q2 : IntKind.i64.wrap (many + 1) = many + 1 := by rw [IntKind.wrap_i64]; omega
            have HAM := Lib.hid (HAE.out.setMany (many + 1))
            have hA : Below wr.heap.size wr (wr.alloc (.cells #[.int .i64 v] 77)) := (Below.refl _ _).alloc (Nat.le_refl _) _
            have hbl : b < wr.heap.size := HL.out.2.1.lt b (HL.out.2.1.nd _ _ _ HL.out.2.2.1).2
            have htl : t < wr.heap.size := HL.out.2.1.lt t HL.out.2.1.tF
            have a0 : (wr.alloc (.cells #[.int .i64 v] 77)).cell? ⟨b, 8 + s, none⟩ = some (.pointer none) := cell_keep hA hec
            have a1 := cell_keep hA huc
            have a2 := cell_keep hA t1
            have af : ∀ j, (wr.alloc (.cells #[.int .i64 v] 77)).frozen? ⟨b, j, none⟩ = false := fun j => frz hA hbl (nodeO_free (HL.out.2.1.nd _ _ _ HL.out.2.2.1).1 j)
            have atf : ∀ j, (wr.alloc (.cells #[.int .i64 v] 77)).frozen? ⟨t, j, none⟩ = false := fun j => frz hA htl (tf j)
            have hbt : b ≠ t := HL.out.2.1.nt HL.out.2.2.1
            have hbF := (HL.out.2.1.nd _ _ _ HL.out.2.2.1).2
            have HCH := Lib.hid (show Chg F (wr.heap.size :: F2) w ((((wr.alloc (.cells #[.int .i64 v] 77)).setCell ⟨b, 8 + s, none⟩ (.pointer (some ⟨wr.heap.size, 0, none⟩))).setCell ⟨b, 19, none⟩ (.int .i64 (((u : Nat) : Int) + 1))).setCell ⟨t, 1, none⟩ (.int .i64 (many + 1))) from by
              have h1 : Chg F2 F2 wr (wr.alloc (.cells #[.int .i64 v] 77)) := Chg.of_below (F := F2) hA
              have h2 := ((h1.setCell b (8 + s) (.pointer (some ⟨wr.heap.size, 0, none⟩)) hbF).setCell b 19 (.int .i64 (((u : Nat) : Int) + 1)) hbF).setCell t 1 (.int .i64 (many + 1)) HL.out.2.1.tF
              refine HL.out.2.2.2.trans ⟨h2.1, h2.2.1, h2.2.2.1, h2.2.2.2.1, h2.2.2.2.2.1, fun b' hb' => ?_⟩
              rcases List.mem_cons.1 hb' with rfl | hb'
              · exact .inr (Nat.le_refl _)
              · exact .inl hb')
            clear hA hbl htl hu8 hbF hec huc t0 t1 t2 tf hu hs hE0 hB0
            go_upto_region 25 with (go_at_call 45; refine (HLV.out _).mono ?_; rintro e w5 ⟨rfl, rfl⟩)
            go_cut [] (fun wx => wx = ((wr.alloc (.cells #[.int .i64 v] 77)).setCell ⟨b, 8 + s, none⟩ (.pointer (some ⟨wr.heap.size, 0, none⟩))).drew)
            case first =>
              go_region_with (first | (go_at_call 45; refine (HLV.out _).mono ?_; rintro e w5 ⟨rfl, rfl⟩) | (go_at_call 33; refine (HSL.out _).mono ?_; rintro e w5 ⟨rfl, rfl⟩))
              all_goals (go_wp2_with fail; go_meet; rfl)
            case rest =>
              subst hcut
              go_wp2_with fail
              go_ret
              exact ⟨rfl, σ2, _, wr.heap.size, HL.out.1, HAM.out.1.drew, HCH.out.drew⟩

end Go.Proofs.Ytdnnfoojdfmajaa
