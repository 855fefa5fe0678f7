/- Parts of the proofs of layer 19 (radix): contracts of its functions, and the laws' walks. -/
import Derived.Test.YtdnnfoojdfmajaaProg
import Derived.WalkKit
import Derived.WalkSpells
import Derived.WalkLawsBesides
import Derived.BigQuiet
import Derived.Deep.QuietTactic
import Derived.Lib.Hide
import Derived.Deep.RegionHeld3
import Derived.Deep.DeepCutAuto
import Derived.KernelRfl
import Derived.Deep.OwnRows
import Derived.Laws.CopyOwn
import Derived.Laws.CopyRow
import Derived.StillTailTactics
import Derived.Deep.RegionLaw
import Derived.Handy
import Derived.Deep.CutRange
import Derived.Deep.CutBlock
import Derived.Test.YtdnnfoojdfmajaaA14
import Derived.Test.YtdnnfoojdfmajaaA17
import Derived.Test.YtdnnfoojdfmajaaR12
namespace Go.Proofs.Ytdnnfoojdfmajaa
open Go.RowKit
set_option linter.unusedVariables false
set_option linter.unusedSimpArgs false

theorem rnodes_is {w : World} {t r : Nat} {σ : St} {L : List X} {F G : List Nat} (hr : Rt w r G L) (hab : Ab σ L) (hg : Good L) : Calls Try.prog 18 #[.pointer (some ⟨r, 0, none⟩)] w fun e w' => e = .returned (.int .i64 ((cntN σ.N : Nat) : Int)) ∧ Below w.heap.size w w' := by
  by_cases hl : L = []
  · subst hl
    rw [cnt_none hab]
    exact RNodes_nil r G w hr
  · refine (RNodes_any r G L w hr hg hl).mono ?_
    rintro e w' ⟨o, ho, rfl, hb⟩
    rw [cnt_nodes hab hg hl ho]
    exact ⟨rfl, hb⟩
theorem del_found {t r g i : Nat} {x : X} {σ : St} {L : List X} (hab : Ab σ L) (hg : Good L) (hg4 : g < 4096) (hi : L[i]? = some x) (hc : Cov x g) :
    Good (dl i 1 L) ∧ PDo 15 #[.pointer (some ⟨t, 0, none⟩), .int .i64 (g : Nat)] (.tuple #[.int .i64 x.v, .int .i64 0]) t σ L (dl i 1 L) ∧ RDo 16 #[.pointer (some ⟨r, 0, none⟩), .int .i64 (g : Nat)] (.tuple #[.int .i64 x.v, .int .i64 0]) r L (dl i 1 L) := by
  have hx := List.mem_of_getElem? hi
  obtain ⟨l, e, hA, hE⟩ := hab.at_ hg hx hg4 hc
  refine ⟨hg.sub (dl_sub _ _ _), fun w F hp => ?_, fun w G hr => ?_⟩
  · refine (Del_ok g t σ _ _ _ F x.k e l w hg4 hp hA hE (fun k q => hab.bel_ent hg) (fun k p => hab.n3) (bounds hg σ) (tgt_is _ g x.k)).mono ?_
    rintro _ w' ⟨rfl, hch, c, h1, h2, h3, h4, h5⟩
    obtain ⟨a1, a2⟩ := hab.del hg hi hc (tgt_is _ g x.k) hg4 h1 h2 h4 h5
    refine ⟨by rw [hab.val hg hx hc], F, _, hch, ?_, a1⟩
    have e1 : (((dl i 1 L).length : Nat) : Int) = ((L.length : Nat) : Int) - 1 := by
      have := (List.getElem?_eq_some_iff.1 hi).1
      rw [dl_length (by omega)]
      omega
    rw [e1]
    have e2 : ((cntN (((σ.noE x.k (g / 8 ^ x.k)).wM (tgt (clr σ.M x.k (g / 8 ^ x.k) 3) g x.k)).rem g x.k c).N : Nat) : Int) = ((cntN σ.N : Nat) : Int) - ((c : Nat) - (x.k : Nat)) := by omega
    rw [e2]
    exact h3
  · exact (RDel_ok (g : Nat) i x r G L w hr hg (by have := hg.length; omega) hi (CovI.iff.2 hc)).mono fun _ w' h => h
theorem blk2n {w : World} {b : Nat} {u v : Value} (hz : w.heap[b]? = some (.cells #[u, v] 29 (0, 0))) : w.cell? ⟨b, 0, none⟩ = some u ∧ w.cell? ⟨b, 1, none⟩ = some v := ⟨cell_of_row _ _ 0 _ 29 _ hz, cell_of_row _ _ 1 _ 29 _ hz⟩
theorem nxv_first {L : List X} {x : X} (h : L[0]? = some x) : NxV L 0 (-1) ((x.p : Nat) : Int) (3 * ((x.k : Nat) : Int)) 0 :=
  .inr (.inr ⟨by omega, 0, x, h, ⟨by have : 0 < 8 ^ x.k := Nat.pow_pos (by decide); omega, .inl (by decide)⟩, fun y hy => by simp at hy, rfl, rfl, rfl⟩)
set_option maxRecDepth 100000 in
set_option maxHeartbeats 16000000 in
theorem nodes_law (ao : Option Addr) (len cap : Nat) (z : Nat → Ac) (w : World) (hlc : len ≤ cap) (hcm : cap ≤ maxLen) (hA : Acts w ao len z) : Calls Try.prog 5 #[.slice ao len cap] w fun e w' => e = .returned (.bool true) ∧ Below w.heap.size w w' := by
  go_enter Try.func5, Try.ntmps5
  go_wp2_with fail
  refine (made_any ao len cap z w hlc hcm hA).mono ?_
  rintro e w1 ⟨t, r, σ, L, F, G, rfl, hm, hb⟩
  have HM := Lib.hid (And.intro hm hb)
  clear hA hm hb
  go_upto_region 4 with (go_at_call 10; refine (awake_any w1).mono ?_; rintro e w2 ⟨rfl, hb2⟩; have HB2 := Lib.hid hb2; clear hb2)
  have HT := Lib.hid (And.intro (HM.out.1.1.below HB2.out) (And.intro (HM.out.2.trans (HB2.out.mono HM.out.2.size)) HM.out.1.2))
  clear HM HB2
  clear hlc hcm
  have hlen : L.length ≤ 4096 := HT.out.1.gd.length
  obtain ⟨ao', cap', c0, _⟩ := HT.out.1.rt.cells
  go_wp2_with fail
  clear c0
  go_loopw [7] (fun s wr => ∃ (i : Nat) (σ1 : St) (L1 : List X) (F1 G1 : List Nat), i ≤ L.length ∧ s = .int .i64 (i : Nat) ∧ RowKit.Hid (Tw wr t r σ1 L1 F1 G1 ∧ Below w.heap.size w wr ∧ (∀ b, b ∈ F1 ++ G1 → w.heap.size ≤ b) ∧ L1.length + i = L.length)) (fun s _ => L.length - (intOf s).toNat)
  case atStart => exact ⟨0, σ, L, F, G, Nat.zero_le _, rfl, Lib.hid ⟨HT.out.1, HT.out.2.1, HT.out.2.2, rfl⟩⟩
  case round =>
    obtain ⟨i, σ1, L1, F1, G1, hi, rfl, HL⟩ := hrel
    by_cases hil : i < L.length
    · have hiI : ((i : Nat) : Int) < ((L.length : Nat) : Int) := by omega
      have h0l : 0 < L1.length := by have := HL.out.2.2.2; omega
      have hx0 := List.getElem?_eq_getElem h0l
      generalize L1[0] = x at hx0
      have hxo := HL.out.1.gd.1 x (List.mem_of_getElem? hx0)
      have HX := Lib.hid (And.intro hx0 hxo)
      have HV := Lib.hid (nxv_first hx0)
      have HDL := Lib.hid (del_found (t := t) (r := r) HL.out.1.ab HL.out.1.gd hxo.lt hx0 ⟨Nat.le_refl _, by have : 0 < 8 ^ x.k := Nat.pow_pos (by decide); omega⟩)
      clear hx0 hxo h0l
      go_upto_region 9 with (go_at_call 11; refine (next_prg HV.out HL.out.1.ab HL.out.1.gd _ _ F1 wr HL.out.1.hp).mono ?_; rintro e w3 ⟨rfl, hb3⟩; have HB3 := Lib.hid hb3; clear hb3)
      have hA3 : Below wr.heap.size wr (w3.alloc (.cells #[.int .i64 ((x.p : Nat) : Int), .int .i64 (3 * ((x.k : Nat) : Int))] 29)) := HB3.out.alloc HB3.out.size _
      have HY := Lib.hid (blk2n (heap_alloc_new w3 (.cells #[.int .i64 ((x.p : Nat) : Int), .int .i64 (3 * ((x.k : Nat) : Int))] 29)))
      have HBF := Lib.hid (fun hm => Nat.lt_irrefl _ (Nat.lt_of_lt_of_le (HL.out.1.hp.lt _ hm) HB3.out.size) : w3.heap.size ∉ F1)
      have HT4 := Lib.hid (And.intro (HL.out.1.below hA3) (HL.out.2.1.trans (hA3.mono HL.out.2.1.size)))
      clear hA3
      generalize w3.alloc (.cells #[.int .i64 ((x.p : Nat) : Int), .int .i64 (3 * ((x.k : Nat) : Int))] 29) = w4 at *
      generalize w3.heap.size = B3 at *
      have z0 := HY.out.1
      go_upto_region 14 with (go_at_call 15; refine (HDL.out.2.1 w4 F1 HT4.out.1.hp).mono ?_; rintro e wa ⟨rfl, F2, σ2, hca, hka, haba⟩; have HA := Lib.hid (And.intro hca (And.intro hka haba)); clear hca hka haba)
      clear z0
      have z0 := HA.out.1.cell HY.out.1 HBF.out
      go_upto_region 15 with (go_at_call 16; refine (HDL.out.2.2 wa G1 (HT4.out.1.rt.chg HA.out.1 HT4.out.1.sep.symm)).mono ?_; rintro e wb ⟨rfl, G2, hcb, hrb⟩; have HBB := Lib.hid (And.intro hcb hrb); clear hcb hrb)
      clear z0
      have HF := Lib.hid (HT4.out.1.fin HA.out.1 HA.out.2.1 HA.out.2.2 HDL.out.1 HBB.out.1 HBB.out.2)
      have HN := Lib.hid (show (∀ b, b ∈ F2 ++ G2 → w.heap.size ≤ b) ∧ Below w.heap.size w wb ∧ (dl 0 1 L1).length + (i + 1) = L.length from ⟨HF.out.2.ge HL.out.2.2.1 HT4.out.2.size, HT4.out.2.trans (HF.out.2.below HL.out.2.2.1 HT4.out.2.size), by
        have := HL.out.2.2.2
        rw [dl_length (by omega)]
        omega⟩)
      have hl4 : (dl 0 1 L1).length ≤ 4096 := HF.out.1.gd.length
      obtain ⟨ao2, cap2, c0, _⟩ := HF.out.1.rt.cells
      generalize dl 0 1 L1 = L2 at *
      have HRN := Lib.hid (fun W (hr : Rt W r G2 L2) => rnodes_is (t := t) (F := F2) hr HF.out.1.ab HF.out.1.gd)
      clear HDL HA HBB
      have HLN := Lib.hid (fun W (hb : Below wb.drew.heap.size wb.drew W) => Len_any t σ2 _ _ F2 W (HF.out.1.hp.drew.below hb))
      have HPN := Lib.hid (Nodes_any t σ2 _ _ F2 wb.drew HF.out.1.hp.drew)
      generalize ((cntN σ2.N : Nat) : Int) = cc at *
      have hn1 : (cc != cc) = false := by simp
      have hn2 : (((L2.length : Nat) : Int) != ((L2.length : Nat) : Int)) = false := by simp
      have hn3 : decide (cc = cc) = true := by simp
      go_region_held3 (fun w' => w'.cell? ⟨r, 0, none⟩ = some (.slice ao2 L2.length cap2)) (first | exact cell_keep hbc (by assumption) | go_keep) (first
        | (go_at_call 17; refine HPN.out.mono ?_; rintro e wx ⟨rfl, rfl⟩)
        | (go_at_call 18; refine (HRN.out wb.drew HF.out.1.rt.drew).mono ?_; rintro e wc ⟨rfl, hbc⟩)
        | (go_at_call 19; refine (HLN.out wc hbc).mono ?_; rintro e wx ⟨rfl, rfl⟩))
      have HWF := Lib.hid (And.intro (HF.out.1.drew.below hbc) (HN.out.2.1.drew.trans (hbc.mono (show w.heap.size ≤ wb.drew.heap.size from HN.out.2.1.size))))
      clear hbc c0
      go_wp2_with fail
      exact ⟨⟨i + 1, σ2, L2, F2, G2, hil, by simp, Lib.hid ⟨HWF.out.1, HWF.out.2, HN.out.1, HN.out.2.2⟩⟩, by simp [intOf]; omega⟩
    · obtain rfl : i = L.length := by omega
      have hL0 : L1 = [] := List.eq_nil_of_length_eq_zero (by have := HL.out.2.2.2; omega)
      subst hL0
      have HZ := Lib.hid (cnt_none HL.out.1.ab)
      have HNN := Lib.hid (Nodes_any t σ1 _ _ F1 wr HL.out.1.hp)
      rw [HZ.out] at HNN
      go_wp2_with (go_at_call 17; refine HNN.out.mono ?_; rintro e wx ⟨rfl, rfl⟩)
      go_ret
      exact ⟨rfl, HL.out.2.1⟩

end Go.Proofs.Ytdnnfoojdfmajaa
