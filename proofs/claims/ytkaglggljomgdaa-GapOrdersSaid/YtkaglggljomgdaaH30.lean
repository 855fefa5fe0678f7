/- Parts of the proofs of layer 18 (gap): contracts of its functions, and the laws' walks. -/
import Derived.Test.YtkaglggljomgdaaProg
import Derived.WalkKit
import Derived.WalkSpells
import Derived.WalkLawsBesides
import Derived.BigQuiet
import Derived.Deep.QuietTactic
import Derived.Lib.Hide
import Derived.Deep.RegionHeld3
import Derived.Deep.DeepCutAuto
import Derived.KernelRfl
import Derived.Deep.OwnRows
import Derived.Laws.CopyOwn
import Derived.Laws.CopyRow
import Derived.StillTailTactics
import Derived.Deep.RegionLaw
import Derived.Test.YtkaglggljomgdaaH29
import Derived.OwnWalk
namespace Go.Proofs.Ytkaglggljomgdaa
open Go.RowKit
set_option linter.unusedVariables false
set_option linter.unusedSimpArgs false

/-- Two trees with some of the reference's stretches, all three apart; nothing that is as old as the block of w0's end is touched. -/
def Oss (C : Nat) (w0 wX : World) (gs : Nat) (Fs : List Nat) (S : List (Int × Int)) (gu : Nat) (Fu : List Nat) (U : List (Int × Int)) (g2 : Nat) (F2 : List Nat) (L : List (Int × Int)) : Prop :=
  Gt wX gs Fs S ∧ Gt wX gu Fu U ∧ Rt wX g2 F2 L ∧ Sep Fs Fu ∧ Sep Fs F2 ∧ Sep Fu F2 ∧ (∀ b ∈ Fs, C < b) ∧ (∀ b ∈ Fu, C < b) ∧ Below C w0 wX ∧ C < wX.heap.size ∧ Sub S L ∧ Sub U L
theorem Oss.below {C : Nat} {w0 wX wY : World} {gs gu g2 : Nat} {Fs Fu F2 : List Nat} {S U L : List (Int × Int)} (m : Oss C w0 wX gs Fs S gu Fu U g2 F2 L) (hb : Below wX.heap.size wX wY) : Oss C w0 wY gs Fs S gu Fu U g2 F2 L := by
  obtain ⟨m1, m2, m3, m4, m5, m6, m7, m8, m9, m10, m11, m12⟩ := m
  exact ⟨m1.below hb, m2.below hb, m3.below hb, m4, m5, m6, m7, m8, m9.trans (hb.mono (Nat.le_of_lt m10)), Nat.lt_of_lt_of_le m10 hb.size, m11, m12⟩
theorem Oss.sput {C : Nat} {w0 wX wY : World} {gs gu g2 : Nat} {Fs Fs' Fu F2 : List Nat} {S S' U L : List (Int × Int)} (m : Oss C w0 wX gs Fs S gu Fu U g2 F2 L) (hc : Chg Fs Fs' wX wY) (hk : Gt wY gs Fs' S') (hs : Sub S' L) : Oss C w0 wY gs Fs' S' gu Fu U g2 F2 L := by
  obtain ⟨m1, m2, m3, m4, m5, m6, m7, m8, m9, m10, m11, m12⟩ := m
  exact ⟨hk, m2.chg hc m4.symm, m3.chg hc m5.symm, hc.sep m4 m2.lt, hc.sep m5 m3.lt, m6, hc.ge (C := C + 1) m7 m10, m8, m9.trans (hc.below (fun b hb => Nat.le_of_lt (m7 b hb)) (Nat.le_of_lt m10)), Nat.lt_of_lt_of_le m10 hc.size, hs, m12⟩
theorem Oss.uput {C : Nat} {w0 wX wY : World} {gs gu g2 : Nat} {Fs Fu Fu' F2 : List Nat} {S U U' L : List (Int × Int)} (m : Oss C w0 wX gs Fs S gu Fu U g2 F2 L) (hc : Chg Fu Fu' wX wY) (hk : Gt wY gu Fu' U') (hs : Sub U' L) : Oss C w0 wY gs Fs S gu Fu' U' g2 F2 L := by
  obtain ⟨m1, m2, m3, m4, m5, m6, m7, m8, m9, m10, m11, m12⟩ := m
  exact ⟨m1.chg hc m4, hk, m3.chg hc m6.symm, (hc.sep m4.symm m1.lt).symm, m5, hc.sep m6 m3.lt, m7, hc.ge (C := C + 1) m8 m10, m9.trans (hc.below (fun b hb => Nat.le_of_lt (m8 b hb)) (Nat.le_of_lt m10)), Nat.lt_of_lt_of_le m10 hc.size, m11, hs⟩
theorem Oss.outs {C : Nat} {w0 wX : World} {gs gu g2 : Nat} {Fs Fu F2 : List Nat} {S U L : List (Int × Int)} (m : Oss C w0 wX gs Fs S gu Fu U g2 F2 L) : C ∉ Fs ∧ C ∉ Fu := by
  obtain ⟨m1, m2, m3, m4, m5, m6, m7, m8, m9, m10, m11, m12⟩ := m
  exact ⟨fun h => Nat.lt_irrefl _ (m7 C h), fun h => Nat.lt_irrefl _ (m8 C h)⟩
def Ak (B : Nat) (d0 d1 d2 : Int) (wX : World) : Prop := wX.cell? ⟨B, 0, none⟩ = some (.int .i64 d0) ∧ wX.cell? ⟨B, 1, none⟩ = some (.int .i64 d1) ∧ wX.cell? ⟨B, 2, none⟩ = some (.int .i64 d2)
theorem Ak.below {B : Nat} {d0 d1 d2 : Int} {wX wY : World} (h : Ak B d0 d1 d2 wX) (hb : Below wX.heap.size wX wY) : Ak B d0 d1 d2 wY := ⟨cell_keep hb h.1, cell_keep hb h.2.1, cell_keep hb h.2.2⟩
theorem Ak.chg {B : Nat} {d0 d1 d2 : Int} {wX wY : World} {F F' : List Nat} (h : Ak B d0 d1 d2 wX) (hc : Chg F F' wX wY) (hB : B ∉ F) : Ak B d0 d1 d2 wY := ⟨hc.cell h.1 hB, hc.cell h.2.1 hB, hc.cell h.2.2 hB⟩
theorem Told.drewN {w : World} {v : Value} {l : List (Int × Int)} (h : Told w v l) (k : Nat) : Told (w.drewN k) v l := Sq.drewN h k
theorem at_has {p v : Int} {L : List (Int × Int)} {e : Int × Int} (h : AtV p L v) (he : e ∈ L) (hp : Has p e) : 0 ≤ v := by
  rcases h with ⟨_, hno⟩ | ⟨i, d, rfl, _, _⟩
  · exact absurd hp (hno e he)
  · omega

set_option maxRecDepth 100000 in
set_option maxHeartbeats 8000000 in
theorem orders_law (ao : Option Addr) (len cap : Nat) (z : Nat → Nat → Int) (fr : Int) (hfr : 0 ≤ fr ∧ fr ≤ 255) (d0 d1 d2 : Int) (w : World) (hlc : len ≤ cap) (hcm : cap ≤ maxLen) (hA : Acts w ao len z) : Calls Try.prog 6 #[.slice ao len cap, .int .u8 fr, .agg #[.int .i64 d0, .int .i64 d1, .int .i64 d2]] w fun e w' => e = .returned (.bool true) ∧ Below w.heap.size w w' := by
  obtain ⟨w0, hw0⟩ : ∃ w0, w0 = w.alloc (.cells #[.int .i64 d0, .int .i64 d1, .int .i64 d2] 24) := ⟨_, rfl⟩
  have hb0 : Below w.heap.size w w0 := by rw [hw0]; exact (Below.refl _ w).alloc (Nat.le_refl _) _
  have hh : w0.heap[w.heap.size]? = some (.cells #[.int .i64 d0, .int .i64 d1, .int .i64 d2] 24 (0, 0)) := by rw [hw0]; exact heap_alloc_new w _
  have k0 : w0.cell? ⟨w.heap.size, 0, none⟩ = some (.int .i64 d0) := cell_of_row w0 w.heap.size 0 _ 24 _ hh
  have k1 : w0.cell? ⟨w.heap.size, 1, none⟩ = some (.int .i64 d1) := cell_of_row w0 w.heap.size 1 _ 24 _ hh
  have k2 : w0.cell? ⟨w.heap.size, 2, none⟩ = some (.int .i64 d2) := cell_of_row w0 w.heap.size 2 _ 24 _ hh
  have HB0 := Lib.hid hb0
  have hlt0 := lt_of_block hh
  have HM0 := Lib.hid (made_any ao len cap z w0 hlc hcm (hA.below hb0))
  clear hA hb0 hh
  go_enter Try.func6, Try.ntmps6
  go_upto_region 1 with fail
  rw [← hw0]
  clear hw0
  go_wp2_with fail
  refine HM0.out.mono ?_
  rintro e w1 ⟨g, g2, F1, F2, L, rfl, hm1, hb1⟩
  replace k0 := cell_keep hb1 k0
  replace k1 := cell_keep hb1 k1
  replace k2 := cell_keep hb1 k2
  have hK : ∀ b, b ∈ F1 ++ F2 → w.heap.size ≤ b ∧ w.heap.size ≠ b := fun b hb => by
    have := hm1.2 b hb
    have h2 := HB0.out.size
    have h3 := hlt0
    omega
  have HK := Lib.hid hK
  have HB1 := Lib.hid (HB0.out.trans (hb1.mono HB0.out.size))
  have HM1 := Lib.hid hm1.1
  clear hm1 hb1 hK HB0 HM0 hlt0
  have HZ1 := Lib.hid (show w.heap.size < w1.heap.size from World.block_lt_of_cell? w1 _ k0)
  go_wp2_with fail
  refine (new_any w1).mono ?_
  rintro e w2 ⟨rfl, hc2, hs2⟩
  have hb2 : Below w1.heap.size w1 w2 := hc2.below (fun b hb => by simp at hb) (Nat.le_refl _)
  replace k0 := cell_keep hb2 k0
  replace k1 := cell_keep hb2 k1
  replace k2 := cell_keep hb2 k2
  have HM2 := Lib.hid (HM1.out.below hb2)
  have HB2 := Lib.hid (HB1.out.trans (hb2.mono HB1.out.size))
  have HS2 := Lib.hid (And.intro hs2 (And.intro (hs2.lt w1.heap.size (by simp)) (HM1.out.2.1.lt)))
  clear hc2 hs2 hb2 HM1 HB1
  go_wp2_with fail
  refine (new_any w2).mono ?_
  rintro e w3 ⟨rfl, hc3, hu3⟩
  have hb3 : Below w2.heap.size w2 w3 := hc3.below (fun b hb => by simp at hb) (Nat.le_refl _)
  replace k0 := cell_keep hb3 k0
  replace k1 := cell_keep hb3 k1
  replace k2 := cell_keep hb3 k2
  have HOS := Lib.hid (show Oss w.heap.size w w3 w1.heap.size [w1.heap.size] [] w2.heap.size [w2.heap.size] [] g2 F2 L from
    ⟨HS2.out.1.below hb3, hu3, HM2.out.2.1.below hb3, fun b hb hm => by have := HS2.out.2.1; simp at hb hm; omega, fun b hb hm => by have := HS2.out.2.2 b hm; simp at hb; omega, fun b hb hm => by have := HM2.out.2.1.lt b hm; simp at hb; omega, fun b hb => by have := HZ1.out; simp at hb; omega, fun b hb => by have := HZ1.out; have := HS2.out.2.1; simp at hb; omega, HB2.out.trans (hb3.mono HB2.out.size), World.block_lt_of_cell? w3 _ k0, ⟨by show (1 : Int) ≤ 4096; omega, fun e he => by cases he⟩, ⟨by show (1 : Int) ≤ 4096; omega, fun e he => by cases he⟩⟩)
  have HRG := Lib.hid HM2.out.1.rg
  have HLN := Lib.hid (show L.length ≤ 4095 from HM2.out.len)
  clear hc3 hu3 hb3 HM2 HB2 HS2
  generalize w1.heap.size = gs at *
  generalize w2.heap.size = gu at *
  go_wp2_with fail
  refine (awake_any w3).mono ?_
  rintro e w4 ⟨rfl, hb4⟩
  replace k0 := cell_keep hb4 k0
  replace k1 := cell_keep hb4 k1
  replace k2 := cell_keep hb4 k2
  have HO4 := Lib.hid (HOS.out.below hb4)
  clear hb4 HOS HZ1 HK
  obtain ⟨aL, cL, kL, hT⟩ := HO4.out.2.2.1.cells
  clear hT
  go_wp2_with fail
  have HK4 := Lib.hid (show Ak w.heap.size d0 d1 d2 w4 from ⟨k0, k1, k2⟩)
  clear kL k0 k1 k2
  go_loopw [13] (fun s wr => ∃ (i : Nat) (Fs : List Nat) (S : List (Int × Int)), i ≤ L.length ∧ s = .int .i64 (i : Nat) ∧ RowKit.Hid (Oss w.heap.size w wr gs Fs S gu [gu] [] g2 F2 L ∧ Ak w.heap.size d0 d1 d2 wr)) (fun s _ => L.length - (intOf s).toNat)
  case atStart => exact ⟨0, [gs], [], Nat.zero_le _, rfl, Lib.hid ⟨HO4.out, HK4.out⟩⟩
  case round =>
    obtain ⟨i, Fs, S, hi, rfl, HI⟩ := hrel
    by_cases hil : i < L.length
    · have hl4 := HLN.out
      obtain ⟨j, hj⟩ : ∃ j : Nat, ((i : Int) * 7 + fr) % (L.length : Nat) = (j : Nat) := ⟨(((i : Int) * 7 + fr) % (L.length : Nat)).toNat, by rw [Int.toNat_of_nonneg]; exact Int.emod_nonneg _ (by omega)⟩
      have hjl : j < L.length := by have := Int.emod_lt_of_pos ((i : Int) * 7 + fr) (show (0 : Int) < (L.length : Nat) by omega); omega
      have hw1 : IntKind.i64.wrap ((i : Int) * 7) = (i : Int) * 7 := by rw [IntKind.wrap_i64]; omega
      have hw2 : IntKind.i64.wrap fr = fr := by rw [IntKind.wrap_i64]; omega
      have hw3 : IntKind.i64.wrap ((i : Int) * 7 + fr) = (i : Int) * 7 + fr := by rw [IntKind.wrap_i64]; omega
      have hm1 : ((i : Int) * 7 + fr).tmod (L.length : Nat) = (j : Nat) := by rw [Int.tmod_eq_emod_of_nonneg (by omega), hj]
      have hz : ¬ L.length = 0 := by omega
      obtain ⟨aL2, cL2, c0, hT⟩ := HI.out.1.2.2.1.cells
      obtain ⟨bl, cl2, hv, hbl, hcell⟩ := hT.read (ne_nil_of_lt hjl)
      cases hv
      have hk := List.getElem?_eq_getElem hjl
      generalize L[j] = k at hk
      obtain ⟨y0, y1⟩ := k
      obtain ⟨e0, e1⟩ := hcell j _ hk
      have hyb := HRG.out.mem _ (List.mem_of_getElem? hk)
      have HMY := Lib.hid (List.mem_of_getElem? hk)
      dsimp only at e0 e1 hyb
      have hiI : ((i : Nat) : Int) < ((L.length : Nat) : Int) := by omega
      have hjI : ((j : Nat) : Int) < ((L.length : Nat) : Int) := by omega
      clear hcell hk hbl hT
      go_upto_region 10 with fail
      have hA : Below wr.heap.size wr (wr.alloc (.cells #[.int .i64 0, .int .i64 0] 44)) := (Below.refl _ _).alloc (Nat.le_refl _) _
      have hzz := heap_alloc_new wr (.cells #[.int .i64 0, .int .i64 0] 44)
      have z0 : (wr.alloc (.cells #[.int .i64 0, .int .i64 0] 44)).cell? ⟨wr.heap.size, 0, none⟩ = some (.int .i64 0) := cell_of_row _ wr.heap.size 0 _ 44 _ hzz
      have z1 : (wr.alloc (.cells #[.int .i64 0, .int .i64 0] 44)).cell? ⟨wr.heap.size, 1, none⟩ = some (.int .i64 0) := cell_of_row _ wr.heap.size 1 _ 44 _ hzz
      have zf : ∀ j, (wr.alloc (.cells #[.int .i64 0, .int .i64 0] 44)).frozen? ⟨wr.heap.size, j, none⟩ = false := fun j => frozen_of_row _ wr.heap.size j _ 44 hzz
      have c0A := cell_keep hA c0
      have e0A := cell_keep hA e0
      have e1A := cell_keep hA e1
      clear hA hzz
      go_region
      have hb4 : Below wr.heap.size wr (wr.alloc (.cells #[.int .i64 y0, .int .i64 y1] 44)).drew := below_drew ((Below.refl _ _).alloc (Nat.le_refl _) _)
      have hx4 := heap_alloc_new wr (.cells #[.int .i64 y0, .int .i64 y1] 44)
      have HI4 := Lib.hid (And.intro (HI.out.1.below hb4) (HI.out.2.below hb4))
      have HB4 := Lib.hid (show wr.heap.size ∉ Fs from fun hb => Nat.lt_irrefl _ (HI.out.1.1.lt _ hb))
      have x0 : (wr.alloc (.cells #[.int .i64 y0, .int .i64 y1] 44)).drew.cell? ⟨wr.heap.size, 0, none⟩ = some (.int .i64 y0) := cell_of_row _ wr.heap.size 0 _ 44 _ hx4
      have x1 : (wr.alloc (.cells #[.int .i64 y0, .int .i64 y1] 44)).drew.cell? ⟨wr.heap.size, 1, none⟩ = some (.int .i64 y1) := cell_of_row _ wr.heap.size 1 _ 44 _ hx4
      have hsp := HI.out.1.2.2.2.2.2.2.2.2.2.2.1.put HRG.out HMY.out
      have HSP := Lib.hid hsp.1
      clear hb4 hx4 z0 z1 zf c0 e0 e1 c0A e0A e1A HI hsp hj hjl hw1 hw2 hw3 hm1 hz hjI
      generalize (wr.alloc (.cells #[.int .i64 y0, .int .i64 y1] 44)).drew = w5 at *
      generalize wr.heap.size = B4 at *
      by_cases hp : putE y0 y1 S = 0
      · go_wp2_with fail
        refine (Put_any y0 y1 gs Fs S w5 HI4.out.1.1).mono ?_
        rintro e wa ⟨rfl, Fs', hca, hka⟩
        rw [hp]
        have HI5 := Lib.hid (And.intro (HI4.out.1.sput hca hka HSP.out) (HI4.out.2.chg hca HI4.out.1.outs.1))
        clear hca hka x0 x1 hp
        go_wp2_with fail
        exact ⟨⟨i + 1, Fs', _, hil, by simp, HI5⟩, by simp [intOf]; omega⟩
      · have hq : (putE y0 y1 S != 0) = true := by rw [bne_iff_ne]; exact hp
        obtain ⟨pq, hpq⟩ : ∃ pq, putE y0 y1 S = pq := ⟨_, rfl⟩
        rw [hpq] at hq hp
        have HPQ := Lib.hid hpq
        clear hpq
        go_wp2_with fail
        refine (Put_any y0 y1 gs Fs S w5 HI4.out.1.1).mono ?_
        rintro e wa ⟨rfl, Fs', hca, hka⟩
        rw [HPQ.out]
        have HI5 := Lib.hid (And.intro (HI4.out.1.sput hca hka HSP.out) (HI4.out.2.chg hca HI4.out.1.outs.1))
        replace x0 := hca.cell x0 HB4.out
        replace x1 := hca.cell x1 HB4.out
        clear hca hka
        go_wp2_with fail
        refine (RAt_any y0 g2 F2 L wa HI5.out.1.2.2.1 (by have := HLN.out; omega)).mono ?_
        rintro e _ ⟨v, rfl, hat, rfl⟩
        have hv0 : 0 ≤ v := at_has hat HMY.out ⟨by simp only; omega, by simp only; omega⟩
        clear hat
        go_wp2_with fail
        exact ⟨⟨i + 1, Fs', _, hil, by simp, HI5⟩, by simp [intOf]; omega⟩
    · have HI2 := Lib.hid HI.out
      clear HI hi
      go_wp2_with fail
      go_loopw [15] (fun s wx => ∃ (i : Nat) (Fs : List Nat) (S : List (Int × Int)) (Fu : List Nat) (U : List (Int × Int)), i ≤ L.length ∧ s = .int .i64 (i : Nat) ∧ RowKit.Hid ((Oss w.heap.size w wx gs Fs S gu Fu U g2 F2 L ∧ Ak w.heap.size d0 d1 d2 wx) ∧ (∀ e ∈ L.take i, e ∈ S) ∧ (∀ e ∈ L.drop (L.length - i), e ∈ U))) (fun s _ => L.length - (intOf s).toNat)
      case atStart => exact ⟨0, Fs, S, [gu], [], Nat.zero_le _, rfl, Lib.hid ⟨HI2.out, fun e he => by simp at he, fun e he => by simp at he⟩⟩
      case round =>
        obtain ⟨m, Fs, S, Fu, U, hi, rfl, HJ⟩ := hrel
        by_cases hil : m < L.length
        · have hl4 := HLN.out
          obtain ⟨n, hn⟩ : ∃ n : Nat, L.length - 1 - m = n := ⟨_, rfl⟩
          have hnl : n < L.length := by omega
          have hnI : ((n : Nat) : Int) < ((L.length : Nat) : Int) := by omega
          have hmI : ((m : Nat) : Int) < ((L.length : Nat) : Int) := by omega
          have hw1 : IntKind.i64.wrap (((L.length : Nat) : Int) - 1) = ((L.length : Nat) : Int) - 1 := by rw [IntKind.wrap_i64]; omega
          have hw2 : IntKind.i64.wrap (((L.length : Nat) : Int) - 1 - (m : Nat)) = (n : Nat) := by rw [IntKind.wrap_i64]; omega
          obtain ⟨aL2, cL2, c0, hT⟩ := HJ.out.1.1.2.2.1.cells
          obtain ⟨bl, cl2, hv, hbl, hcell⟩ := hT.read (ne_nil_of_lt hil)
          cases hv
          have hk := List.getElem?_eq_getElem hil
          generalize L[m] = k at hk
          obtain ⟨y0, y1⟩ := k
          obtain ⟨e0, e1⟩ := hcell m _ hk
          have hk2 := List.getElem?_eq_getElem hnl
          generalize L[n] = k at hk2
          obtain ⟨x0, x1⟩ := k
          have HK2 := Lib.hid (And.intro hk hk2)
          dsimp only at e0 e1
          have hsp := HJ.out.1.1.2.2.2.2.2.2.2.2.2.2.1.put HRG.out (List.mem_of_getElem? hk)
          have hup := HJ.out.1.1.2.2.2.2.2.2.2.2.2.2.2.put HRG.out (List.mem_of_getElem? hk2)
          have HSP := Lib.hid (And.intro hsp hup)
          have HJ1 := Lib.hid (And.intro (HJ.out.1.1.below (below_drew (Below.refl _ _))) (HJ.out.1.2.below (below_drew (Below.refl _ _))))
          clear hcell hk hk2 hbl hT hsp hup
          go_upto_region 16 with fail
          go_still_tail 17, (by kernel_rfl)
          change wpList _ _ _ _ _ (World.drew _)
          go_wp2_with fail
          refine (Put_any y0 y1 gs Fs S _ HJ1.out.1.1).mono ?_
          rintro e wa ⟨rfl, Fs', hca, hka⟩
          have HJ2 := Lib.hid (And.intro (HJ1.out.1.sput hca hka HSP.out.1.1) (HJ1.out.2.chg hca HJ1.out.1.outs.1))
          clear hca hka HJ1 c0 e0 e1
          obtain ⟨aL3, cL3, c0, hT⟩ := HJ2.out.1.2.2.1.cells
          obtain ⟨bl3, cl3, hv, hbl, hcell⟩ := hT.read (ne_nil_of_lt hnl)
          cases hv
          obtain ⟨f0, f1⟩ := hcell n _ HK2.out.2
          dsimp only at f0 f1
          have HJ3 := Lib.hid (And.intro (HJ2.out.1.below (below_drew (Below.refl _ _))) (HJ2.out.2.below (below_drew (Below.refl _ _))))
          clear hcell hbl hT HJ2
          generalize putE y0 y1 S = q1
          go_upto_region 17 with fail
          go_still_tail 23, (by kernel_rfl)
          change wpList _ _ _ _ _ (World.drew _)
          go_wp2_with fail
          refine (Put_any x0 x1 gu Fu U _ HJ3.out.1.2.1).mono ?_
          rintro e wb ⟨rfl, Fu', hcb, hkb⟩
          have HJ4 : RowKit.Hid ((Oss w.heap.size w wb gs Fs' (putL y0 y1 S) gu Fu' (putL x0 x1 U) g2 F2 L ∧ Ak w.heap.size d0 d1 d2 wb) ∧ (∀ e ∈ L.take (m + 1), e ∈ putL y0 y1 S) ∧ (∀ e ∈ L.drop (L.length - (m + 1)), e ∈ putL x0 x1 U)) := Lib.hid ⟨⟨HJ3.out.1.uput hcb hkb HSP.out.2.1, HJ3.out.2.chg hcb HJ3.out.1.outs.2⟩, fun e he => by
              rw [take_succ' L m _ HK2.out.1] at he
              rcases List.mem_append.1 he with he | he
              · exact HSP.out.1.2.2 e (HJ.out.2.1 e he)
              · simp at he; subst he; exact HSP.out.1.2.1, fun e he => by
              rw [show L.length - (m + 1) = n by omega, drop_cons' HK2.out.2] at he
              rcases List.mem_cons.1 he with rfl | he
              · exact HSP.out.2.2.1
              · exact HSP.out.2.2.2 e (HJ.out.2.2 e (by rw [show L.length - m = n + 1 by omega]; exact he))⟩
          clear hcb hkb HJ3 c0 f0 f1 HJ
          generalize putE x0 x1 U = q2
          go_wp2_with fail
          exact ⟨⟨m + 1, Fs', _, Fu', _, hil, by simp, HJ4⟩, by simp [intOf]; omega⟩
        · obtain rfl : m = L.length := by omega
          have hS : S = L := HRG.out.ext HJ.out.1.1.2.2.2.2.2.2.2.2.2.2.1.1 fun e => ⟨fun he => HJ.out.1.1.2.2.2.2.2.2.2.2.2.2.1.2 e he, fun he => HJ.out.2.1 e (by rw [List.take_length]; exact he)⟩
          have hU : U = L := HRG.out.ext HJ.out.1.1.2.2.2.2.2.2.2.2.2.2.2.1 fun e => ⟨fun he => HJ.out.1.1.2.2.2.2.2.2.2.2.2.2.2.2 e he, fun he => HJ.out.2.2 e (by rw [Nat.sub_self]; exact he)⟩
          have HE1 := Lib.hid HJ.out.1
          rw [hS, hU] at HE1
          clear HJ hS hU
          obtain ⟨k0, k1, k2⟩ := HE1.out.2
          go_wp2_with fail
          refine (Room_any d0 d1 d2 gs Fs L _ HE1.out.1.1).mono ?_
          rintro e w6 ⟨rfl, hb6⟩
          have HE6 := Lib.hid (And.intro (HE1.out.1.below hb6) (HE1.out.2.below hb6))
          clear hb6 HE1 k0 k1 k2
          obtain ⟨k0, k1, k2⟩ := HE6.out.2
          go_wp2_with fail
          refine (Room_any d0 d1 d2 gu Fu L w6 HE6.out.1.2.1).mono ?_
          rintro e w7 ⟨rfl, hb7⟩
          have HE7 := Lib.hid (HE6.out.1.below hb7)
          clear hb7 HE6 k0 k1 k2
          obtain ⟨aL4, cL4, kL, hT⟩ := HE7.out.2.2.1.cells
          have HTT := Lib.hid hT
          clear hT
          generalize roomV d0 d1 d2 L = rr at *
          go_upto_region 20 with fail
          go_region_held3 (fun w' => w'.cell? ⟨g2, 0, none⟩ = some (.slice aL4 L.length cL4)) (first | exact cell_keep hba (by assumption) | exact cell_keep hbc (by assumption) | exact cell_keep hbg (by assumption) | exact cell_keep hbh (by assumption) | go_keep) (first
            | (go_at_call_of 22 gs; refine (All_any gs Fs L _ HE7.out.1.drew).mono ?_; rintro e wa ⟨v1, rfl, hv1, hca⟩; have hba := hca.below (C := w7.drew.heap.size) (fun b hb => by simp at hb) (Nat.le_refl _))
            | (go_at_call_of 21 v1; refine (Same_any v1 _ L L _ hv1 (Told.below (show Told w7.drew _ L from HTT.out) hba) (by have := HLN.out; omega)).mono ?_; rintro e _ ⟨rfl, k1, rfl⟩; rw [dec_self])
            | (go_at_call_of 22 gu; refine (All_any gu Fu L _ ((HE7.out.2.1.drew.below hba).drewN k1)).mono ?_; rintro e wc ⟨v2, rfl, hv2, hcc⟩; have hbc := hcc.below (C := (wa.drewN k1).heap.size) (fun b hb => by simp at hb) (Nat.le_refl _))
            | (go_at_call_of 21 v2; refine (Same_any v2 _ L L _ hv2 (Told.below ((Told.below (show Told w7.drew _ L from HTT.out) hba).drewN k1) hbc) (by have := HLN.out; omega)).mono ?_; rintro e _ ⟨rfl, k2, rfl⟩; rw [dec_self])
            | (go_at_call_of 23 gs; refine (Greatest_any gs Fs L _ ((((HE7.out.1.drew.below hba).drewN k1).below hbc).drewN k2)).mono ?_; rintro e wg ⟨rfl, hbg⟩)
            | (go_at_call_of 23 gu; refine (Greatest_any gu Fu L _ (((((HE7.out.2.1.drew.below hba).drewN k1).below hbc).drewN k2).below hbg)).mono ?_; rintro e wh ⟨rfl, hbh⟩))
          go_wp2_with fail
          go_ret
          have hfin : Below w7.heap.size w7 wh := (((((below_undrew hba).trans ((below_drewN (Below.refl _ wa) k1).mono hba.size)).trans (hbc.mono hba.size)).trans ((below_drewN (Below.refl _ wc) k2).mono (Nat.le_trans hba.size hbc.size))).trans (hbg.mono (Nat.le_trans hba.size hbc.size))).trans (hbh.mono (Nat.le_trans (Nat.le_trans hba.size hbc.size) hbg.size))
          exact ⟨by first | rfl | simp, HE7.out.2.2.2.2.2.2.2.2.1.trans (hfin.mono (Nat.le_of_lt HE7.out.2.2.2.2.2.2.2.2.2.1))⟩

end Go.Proofs.Ytkaglggljomgdaa
