/- Parts of the proofs of layer 19 (radix): contracts of its functions, and the laws' walks. -/
import Derived.Test.YtdnnfoojdfmajaaProg
import Derived.WalkKit
import Derived.WalkSpells
import Derived.WalkLawsBesides
import Derived.BigQuiet
import Derived.Deep.QuietTactic
import Derived.Lib.Hide
import Derived.Deep.RegionHeld3
import Derived.Deep.DeepCutAuto
import Derived.KernelRfl
import Derived.Deep.OwnRows
import Derived.Laws.CopyOwn
import Derived.Laws.CopyRow
import Derived.StillTailTactics
import Derived.Deep.RegionLaw
import Derived.Handy
import Derived.Deep.CutRange
import Derived.Deep.CutBlock
import Derived.Test.YtdnnfoojdfmajaaA14
namespace Go.Proofs.Ytdnnfoojdfmajaa
open Go.RowKit
set_option linter.unusedVariables false
set_option linter.unusedSimpArgs false

/-- Has an entry the mark? -/
def sel (m : Int) (y : X) : Bool := decide (m < 0) || y.m m.toNat
theorem sel_iff {m : Int} {y : X} : sel m y = true ↔ (m < 0 ∨ y.m m.toNat = true) := by
  unfold sel
  rw [Bool.or_eq_true, decide_eq_true_eq]
theorem cnt_take {m : Int} {L : List X} : ∀ (d j : Nat), (∀ a, j ≤ a → a < j + d → ∀ y, L[a]? = some y → sel m y = false) → (L.take (j + d)).countP (sel m) = (L.take j).countP (sel m)
  | 0, j, _ => rfl
  | d + 1, j, h => by
    have ih := cnt_take d j fun a h1 h2 y hy => h a h1 (by omega) y hy
    rw [show j + (d + 1) = j + d + 1 from rfl, List.take_add_one, List.countP_append, ih]
    cases hy : L[j + d]? with
    | none => simp
    | some y =>
      have := h (j + d) (by omega) (by omega) y hy
      simp [this]
theorem cnt_next {m : Int} {L : List X} {i : Nat} {y : X} (hy : L[i]? = some y) : (L.take (i + 1)).countP (sel m) = (L.take i).countP (sel m) + (sel m y).toNat := by
  rw [List.take_add_one, List.countP_append, hy]
  cases h : sel m y <;> simp [h]
/-- How far the going through has come. -/
def Gone (L : List X) (m : Int) (j pg k : Nat) : Prop := j ≤ L.length ∧ (∀ a y, L[a]? = some y → a < j → y.p + 8 ^ y.k ≤ pg) ∧ (∀ a y, L[a]? = some y → j ≤ a → pg ≤ y.p) ∧ k = (L.take j).countP (sel m)
theorem Gone.le {L : List X} {m : Int} {j pg k : Nat} (h : Gone L m j pg k) : k ≤ L.length := by
  obtain ⟨h1, _, _, rfl⟩ := h
  refine Nat.le_trans List.countP_le_length ?_
  rw [List.length_take]
  omega
theorem gone_start (L : List X) (m : Int) : Gone L m 0 0 0 := ⟨Nat.zero_le _, fun a y _ h => absurd h (Nat.not_lt_zero _), fun a y _ _ => Nat.zero_le _, rfl⟩
theorem okx_sel {m : Int} {pg : Nat} {y : X} (h : pg ≤ y.p) : OkX (pg : Nat) m y ↔ sel m y = true := by
  unfold OkX
  rw [sel_iff]
  have : 0 < 8 ^ y.k := Nat.pow_pos (by decide)
  constructor
  · exact fun h => h.2
  · exact fun h2 => ⟨by omega, h2⟩
theorem Gone.next {L : List X} (hg : Good L) {m : Int} {j pg k i : Nat} {x : X} (h : Gone L m j pg k) (hi : L[i]? = some x) (hok : OkX (pg : Nat) m x) (hfst : ∀ y ∈ L.take i, ¬ OkX (pg : Nat) m y) : Gone L m (i + 1) (x.p + 8 ^ x.k) (k + 1) ∧ pg ≤ x.p ∧ sel m x = true := by
  obtain ⟨h1, h2, h3, h4⟩ := h
  obtain ⟨hil, hx⟩ := List.getElem?_eq_some_iff.1 hi
  have hpos : 0 < 8 ^ x.k := Nat.pow_pos (by decide)
  have hji : j ≤ i := by
    rcases Nat.lt_or_ge i j with h | h
    · have := h2 i x hi h
      unfold OkX at hok
      omega
    · exact h
  have hpg := h3 i x hi hji
  have hs := (okx_sel hpg).1 hok
  refine ⟨⟨by omega, fun a y hy ha => ?_, fun a y hy ha => ?_, ?_⟩, hpg, hs⟩
  · obtain ⟨hal, hy'⟩ := List.getElem?_eq_some_iff.1 hy
    by_cases e : a = i
    · subst e; rw [hi] at hy; cases hy; exact Nat.le_refl _
    · have := List.pairwise_iff_getElem.1 hg.2 a i hal hil (by omega)
      rw [hx, hy'] at this
      omega
  · obtain ⟨hal, hy'⟩ := List.getElem?_eq_some_iff.1 hy
    have := List.pairwise_iff_getElem.1 hg.2 i a hil hal (by omega)
    rw [hx, hy'] at this
    exact this
  · have := cnt_take (m := m) (L := L) (i - j) j fun a b1 b2 y hy => by
      cases hh : sel m y with
      | false => rfl
      | true => exact absurd ((okx_sel (h3 a y hy b1)).2 hh) (hfst y (List.mem_iff_getElem?.2 ⟨a, by rw [List.getElem?_take, if_pos (by omega)]; exact hy⟩))
    rw [show j + (i - j) = i from by omega] at this
    rw [cnt_next hi, hs, this, h4]
    rfl
theorem Gone.fin {L : List X} {m : Int} {j pg k : Nat} (h : Gone L m j pg k) (hn : ∀ y ∈ L, ¬ OkX (pg : Nat) m y) : k = L.countP (sel m) := by
  obtain ⟨h1, h2, h3, h4⟩ := h
  have := cnt_take (m := m) (L := L) (L.length - j) j fun a b1 b2 y hy => by
    cases hh : sel m y with
    | false => rfl
    | true => exact absurd ((okx_sel (h3 a y hy b1)).2 hh) (hn y (List.mem_of_getElem? hy))
  rw [show j + (L.length - j) = L.length from by omega, List.take_length] at this
  rw [this]
  exact h4
theorem mcell {w : World} {bl i mk : Nat} {x : X} (h : w.cell? ⟨bl, i * 6 + 3, none⟩ = some (.bool x.a) ∧ w.cell? ⟨bl, i * 6 + 4, none⟩ = some (.bool x.b) ∧ w.cell? ⟨bl, i * 6 + 5, none⟩ = some (.bool x.c)) (hm : mk < 3) : w.cell? ⟨bl, i * 6 + 3 + mk, none⟩ = some (.bool (x.m mk)) := by
  rcases (show mk = 0 ∨ mk = 1 ∨ mk = 2 by omega) with rfl | rfl | rfl
  · exact h.1
  · exact h.2.1
  · exact h.2.2
theorem blk2f {w : World} {b : Nat} {u v : Value} (hz : w.heap[b]? = some (.cells #[u, v] 29 (0, 0))) : w.cell? ⟨b, 0, none⟩ = some u ∧ w.cell? ⟨b, 1, none⟩ = some v := ⟨cell_of_row _ _ 0 _ 29 _ hz, cell_of_row _ _ 1 _ 29 _ hz⟩
theorem next_pr {L : List X} {page mark a b c : Int} (hv : NxV L page mark a b c) {t : Nat} {σ : St} (hab : Ab σ L) (hg : Good L) (many nodes : Int) (F : List Nat) (w : World) (h : Hp w t σ many nodes F) :
    Calls Try.prog 11 #[.pointer (some ⟨t, 0, none⟩), .int .i64 page, .int .i64 mark] w fun e w' => e = .returned (.tuple #[.agg #[.int .i64 a, .int .i64 b], .int .i64 c]) ∧ Below w.heap.size w w' := next_prg hv hab hg many nodes F w h
set_option maxRecDepth 100000 in
set_option maxHeartbeats 16000000 in
theorem finds_law (ao : Option Addr) (len cap : Nat) (z : Nat → Ac) (mark : Int) (hmk : 0 ≤ mark ∧ mark ≤ 255) (w : World) (hlc : len ≤ cap) (hcm : cap ≤ maxLen) (hA : Acts w ao len z) : Calls Try.prog 4 #[.slice ao len cap, .int .u8 mark] w fun e w' => e = .returned (.bool true) ∧ Below w.heap.size w w' := by
  go_enter Try.func4, Try.ntmps4
  go_wp2_with fail
  refine (made_any ao len cap z w hlc hcm hA).mono ?_
  rintro e w1 ⟨t, r, σ, L, F, G, rfl, hm, hb⟩
  have HM := Lib.hid (And.intro hm hb)
  clear hA hm hb
  go_upto_region 4 with (go_at_call 10; refine (awake_any w1).mono ?_; rintro e w2 ⟨rfl, hb2⟩; have HB2 := Lib.hid hb2; clear hb2)
  have HT := Lib.hid (And.intro (HM.out.1.1.below HB2.out) (And.intro (HM.out.2.trans (HB2.out.mono HM.out.2.size)) HM.out.1.2))
  clear HM HB2
  clear hlc hcm
  obtain ⟨q, hq⟩ : ∃ q, mark % 4 = q := ⟨_, rfl⟩
  have hq4 : 0 ≤ q ∧ q ≤ 3 := by omega
  have q0 : Int.tmod mark 4 = q := by rw [Int.tmod_eq_emod_of_nonneg hmk.1]; exact hq
  have q1 : IntKind.u8.wrap q = q := by unfold IntKind.wrap; simp [IntKind.bits, IntKind.signed]; omega
  go_upto_region 6 with fail
  obtain ⟨m, hm⟩ : ∃ m, q - 1 = m := ⟨_, rfl⟩
  have HM := Lib.hid (show -1 ≤ m ∧ m < 3 by omega)
  rw [hm]
  clear hm q0 q1 hq4 hq hmk
  have hlen : L.length ≤ 4096 := HT.out.1.gd.length
  go_wp2_with fail
  go_loopw [9, 10, 11] (fun sn sp s wr => ∃ (k j pg : Nat), sn = .int .i64 (k : Nat) ∧ sp = .int .i64 (pg : Nat) ∧ s = .int .i64 (k : Nat) ∧ RowKit.Hid (Below w2.heap.size w2 wr ∧ Gone L m j pg k)) (fun _ _ s _ => L.length + 1 - (intOf s).toNat)
  case atStart => exact ⟨0, 0, 0, rfl, rfl, rfl, Lib.hid ⟨Below.refl _ _, gone_start L m⟩⟩
  case round =>
    obtain ⟨k, j, pg, rfl, rfl, rfl, HL⟩ := hrel
    have hkl : k ≤ L.length := HL.out.2.le
    have hkI : ((k : Nat) : Int) ≤ ((L.length : Nat) : Int) := by omega
    have HTR := Lib.hid (HT.out.1.below HL.out.1)
    obtain ⟨ao', cap', c0, _⟩ := HTR.out.rt.cells
    obtain ⟨a, b, c, hv⟩ := nxv_ex L (pg : Nat) m
    have HV := Lib.hid hv
    rcases hv with ⟨hb, _⟩ | ⟨_, hn, rfl, rfl, rfl⟩ | ⟨_, i, x, hi, hok, hfst, rfl, rfl, rfl⟩
    · exact absurd HM.out hb
    · have HF := Lib.hid (HL.out.2.fin hn)
      clear hn
      go_upto_region 10 with (go_at_call 11; refine (next_prg HV.out HTR.out.ab HTR.out.gd _ _ F wr HTR.out.hp).mono ?_; rintro e w3 ⟨rfl, hb3⟩; have HB3 := Lib.hid hb3; clear hb3)
      have hA3 : Below wr.heap.size wr (w3.alloc (.cells #[.int .i64 0, .int .i64 0] 29)) := HB3.out.alloc HB3.out.size _
      have HT4 := Lib.hid (And.intro (HTR.out.below hA3) (HT.out.2.1.trans ((HL.out.1.trans (hA3.mono HL.out.1.size)).mono HT.out.2.1.size)))
      clear hA3 c0
      generalize w3.alloc (.cells #[.int .i64 0, .int .i64 0] 29) = w4 at *
      generalize w3.heap.size = B3 at *
      go_wp2_with fail
      go_loopw [15, 16] (fun sw s wx => ∃ (i cN : Nat), i ≤ L.length ∧ cN ≤ 4096 ∧ sw = .int .i64 (cN : Nat) ∧ s = .int .i64 (i : Nat) ∧ RowKit.Hid (Below w4.heap.size w4 wx ∧ cN = (L.take i).countP (sel m))) (fun _ s _ => L.length - (intOf s).toNat)
      case atStart => exact ⟨0, 0, Nat.zero_le _, Nat.zero_le _, rfl, rfl, Lib.hid ⟨Below.refl _ _, rfl⟩⟩
      case round =>
        obtain ⟨i, cN, hi, hcN, rfl, rfl, HC⟩ := hrel
        have HTX := Lib.hid (HT4.out.1.below HC.out.1)
        obtain ⟨ao', cap', c0, hT, _⟩ := HTX.out.rt.cells
        by_cases hil : i < L.length
        · obtain ⟨bl, cl2, hv', _, _, _, hcell, _⟩ := hT.read (ne_nil_of_lt hil)
          cases hv'
          have hk := List.getElem?_eq_getElem hil
          generalize L[i] = x at hk
          obtain ⟨_, _, _, e3, e4, e5⟩ := hcell i _ hk
          have hiI : ((i : Nat) : Int) < ((L.length : Nat) : Int) := by omega
          have HCN := Lib.hid (cnt_next (m := m) hk)
          have hcl : (L.take (i + 1)).countP (sel m) ≤ 4096 := by
            refine Nat.le_trans List.countP_le_length ?_
            rw [List.length_take]
            omega
          have HCL := Lib.hid hcl
          clear hcl hT hcell hk
          by_cases c1 : m < 0
          · have HS := Lib.hid (show sel m x = true from sel_iff.2 (.inl c1))
            go_wp2_with fail
            exact ⟨⟨i + 1, cN + 1, hil, by have := HCL.out; rw [HCN.out, HS.out, ← HC.out.2] at this; exact this, by simp, by simp, Lib.hid ⟨HC.out.1, by rw [HCN.out, HS.out, ← HC.out.2]; rfl⟩⟩, by simp [intOf]; omega⟩
          · obtain ⟨mk, rfl⟩ : ∃ mk : Nat, m = (mk : Nat) := ⟨m.toNat, by omega⟩
            have hmk3 : mk < 3 := by have := HM.out; omega
            have hmI : ((mk : Nat) : Int) < 3 := by omega
            have hm0 : (0 : Int) ≤ ((mk : Nat) : Int) := by omega
            have e6 := mcell ⟨e3, e4, e5⟩ hmk3
            clear e3 e4 e5
            cases hs : x.m mk with
            | true =>
              have HS := Lib.hid (show sel (mk : Nat) x = true from sel_iff.2 (.inr (by rw [Int.toNat_natCast]; exact hs)))
              rw [hs] at e6
              go_wp2_with fail
              exact ⟨⟨i + 1, cN + 1, hil, by have := HCL.out; rw [HCN.out, HS.out, ← HC.out.2] at this; exact this, by simp, by simp, Lib.hid ⟨HC.out.1, by rw [HCN.out, HS.out, ← HC.out.2]; rfl⟩⟩, by simp [intOf]; omega⟩
            | false =>
              have HS := Lib.hid (show sel (mk : Nat) x = false by
                cases hh : sel (mk : Nat) x with
                | false => rfl
                | true =>
                  rcases sel_iff.1 hh with h | h
                  · omega
                  · rw [Int.toNat_natCast, hs] at h; cases h)
              rw [hs] at e6
              go_wp2_with fail
              exact ⟨⟨i + 1, cN, hil, hcN, by simp, by simp, Lib.hid ⟨HC.out.1, by rw [HCN.out, HS.out, ← HC.out.2]; rfl⟩⟩, by simp [intOf]; omega⟩
        · obtain rfl : i = L.length := by omega
          obtain rfl : cN = k := by rw [HC.out.2, List.take_length]; exact HF.out.symm
          clear hT
          go_wp2_with fail
          go_ret
          exact ⟨rfl, HT4.out.2.trans (HC.out.1.mono HT4.out.2.size)⟩
    · have HG := Lib.hid (HL.out.2.next HTR.out.gd hi hok hfst)
      have hil : i < L.length := (List.getElem?_eq_some_iff.1 hi).1
      have hiI : ((i : Nat) : Int) < ((L.length : Nat) : Int) := by omega
      have hi0 : ¬ (((i : Nat) : Int) < 0) := by omega
      have hxo := HTR.out.gd.1 x (List.mem_of_getElem? hi)
      have hpI : ¬ (((x.p : Nat) : Int) < ((pg : Nat) : Int)) := by have := HG.out.2.1; omega
      have HX := Lib.hid (And.intro hi (And.intro hxo (show CovI x ((x.p : Nat) : Int) from CovI.iff.2 ⟨Nat.le_refl _, by have : 0 < 8 ^ x.k := Nat.pow_pos (by decide); omega⟩)))
      clear hok hfst hi hxo
      go_upto_region 10 with (go_at_call 11; refine (next_prg HV.out HTR.out.ab HTR.out.gd _ _ F wr HTR.out.hp).mono ?_; rintro e w3 ⟨rfl, hb3⟩; have HB3 := Lib.hid hb3; clear hb3)
      have hA3 : Below wr.heap.size wr (w3.alloc (.cells #[.int .i64 ((x.p : Nat) : Int), .int .i64 (3 * ((x.k : Nat) : Int))] 29)) := HB3.out.alloc HB3.out.size _
      have HY := Lib.hid (blk2f (heap_alloc_new w3 (.cells #[.int .i64 ((x.p : Nat) : Int), .int .i64 (3 * ((x.k : Nat) : Int))] 29)))
      have HT4 := Lib.hid (And.intro (HTR.out.below hA3) (HL.out.1.trans (hA3.mono HL.out.1.size)))
      clear hA3 c0
      generalize w3.alloc (.cells #[.int .i64 ((x.p : Nat) : Int), .int .i64 (3 * ((x.k : Nat) : Int))] 29) = w4 at *
      generalize w3.heap.size = B3 at *
      have z0 := HY.out.1
      go_upto_region 12 with (go_at_call 13; refine (RAt_ok _ i x r G L w4 HT4.out.1.rt HT4.out.1.gd HX.out.1 HX.out.2.2).mono ?_; rintro e w5 ⟨rfl, hb5⟩; have HB5 := Lib.hid hb5; clear hb5)
      have HT5 := Lib.hid (And.intro (HT4.out.1.below HB5.out) (HT4.out.2.trans (HB5.out.mono HT4.out.2.size)))
      clear z0
      have z0 := cell_keep HB5.out HY.out.1
      have z1 := cell_keep HB5.out HY.out.2
      obtain ⟨ao', cap', c0, hT, _⟩ := HT5.out.1.rt.cells
      obtain ⟨bl, cl2, hv', _, _, _, hcell, _⟩ := hT.read (ne_nil_of_lt hil)
      cases hv'
      obtain ⟨e0, _, _, e3, e4, e5⟩ := hcell i _ HX.out.1
      clear hT hcell
      have hxp : x.p < 4096 := HX.out.2.1.lt
      have HSZ := Lib.hid (fun W => siz_at HX.out.2.1.1 W)
      have HGN0 := HG.out.1
      have hsz : 8 ^ x.k ≤ 64 := by rcases k3 HX.out.2.1.1 with e | e | e <;> rw [e] <;> decide
      generalize 8 ^ x.k = sz at *
      have HGN := Lib.hid HGN0
      clear HGN0
      have w1 : IntKind.i64.wrap (((x.p : Nat) : Int) + ((sz : Nat) : Int)) = ((x.p + sz : Nat) : Int) := by rw [IntKind.wrap_i64]; omega
      obtain ⟨ko, hko⟩ : ∃ ko, 3 * ((x.k : Nat) : Int) = ko := ⟨_, rfl⟩
      rw [hko] at z1 HSZ
      clear hko hxp hsz hkl
      have d1 : decide (((x.p : Nat) : Int) < ((pg : Nat) : Int)) = false := decide_eq_false (Int.not_lt.2 hpI)
      have d2 : decide (((i : Nat) : Int) < 0) = false := decide_eq_false (Int.not_lt.2 hi0)
      have hpN : pg ≤ x.p := HG.out.2.1
      have hpN2 : ¬ (x.p < pg) := by omega
      have d5 : decide (x.p < pg) = false := decide_eq_false hpN2
      have hi1 : (0 : Int) ≤ ((i : Nat) : Int) := by omega
      by_cases c1 : m < 0
      · have c2 : decide ((0 : Int) ≤ m) = false := decide_eq_false (by omega)
        go_quiet (fail)
        have HB6 := Lib.hid (below_drewN HT5.out.2 nq)
        have z0' : (w5.drewN nq).cell? ⟨B3, 0, none⟩ = some (.int .i64 ((x.p : Nat) : Int)) := z0
        have z1' : (w5.drewN nq).cell? ⟨B3, 1, none⟩ = some (.int .i64 ko) := z1
        clear z0 z1 c0 e0 e3 e4 e5 c1 c2
        generalize w5.drewN nq = w6 at *
        go_upto_region 15 with fail
        go_quiet ((go_at_call 14; exact Calls.quiet_of_same (HSZ.out _)))
        have HB7 := Lib.hid (below_drewN HB6.out nq)
        clear z0' z1' w1 d1 d2 d5 hpI hpN hpN2
        go_wp2_with fail
        exact ⟨⟨k + 1, i + 1, x.p + sz, by simp, by simp, by simp, Lib.hid ⟨HB7.out, HGN.out⟩⟩, by simp [intOf]; omega⟩
      · obtain ⟨mk, rfl⟩ : ∃ mk : Nat, m = (mk : Nat) := ⟨m.toNat, by omega⟩
        have hmk3 : mk < 3 := by have := HM.out; omega
        have hmI : ((mk : Nat) : Int) < 3 := by omega
        have hm0 : (0 : Int) ≤ ((mk : Nat) : Int) := by omega
        have c2 : decide ((0 : Int) ≤ ((mk : Nat) : Int)) = true := decide_eq_true hm0
        have e6 := mcell ⟨e3, e4, e5⟩ hmk3
        rw [show x.m mk = true from by
          rcases sel_iff.1 HG.out.2.2 with h | h
          · omega
          · rw [Int.toNat_natCast] at h; exact h] at e6
        clear e3 e4 e5 c1 hmk3
        go_quiet (fail)
        have HB6 := Lib.hid (below_drewN HT5.out.2 nq)
        have z0' : (w5.drewN nq).cell? ⟨B3, 0, none⟩ = some (.int .i64 ((x.p : Nat) : Int)) := z0
        have z1' : (w5.drewN nq).cell? ⟨B3, 1, none⟩ = some (.int .i64 ko) := z1
        clear z0 z1 c0 e0 e6 c2
        generalize w5.drewN nq = w6 at *
        go_upto_region 15 with fail
        go_quiet ((go_at_call 14; exact Calls.quiet_of_same (HSZ.out _)))
        have HB7 := Lib.hid (below_drewN HB6.out nq)
        clear z0' z1' w1 d1 d2 d5 hpI hpN hpN2
        go_wp2_with fail
        exact ⟨⟨k + 1, i + 1, x.p + sz, by simp, by simp, by simp, Lib.hid ⟨HB7.out, HGN.out⟩⟩, by simp [intOf]; omega⟩

end Go.Proofs.Ytdnnfoojdfmajaa
