/- Parts of the proofs of layer 19 (radix): contracts of its functions, and the laws' walks. -/
import Derived.Test.YtdnnfoojdfmajaaProg
import Derived.WalkKit
import Derived.WalkSpells
import Derived.WalkLawsBesides
import Derived.BigQuiet
import Derived.Deep.QuietTactic
import Derived.Lib.Hide
import Derived.Deep.RegionHeld3
import Derived.Deep.DeepCutAuto
import Derived.KernelRfl
import Derived.Deep.OwnRows
import Derived.Laws.CopyOwn
import Derived.Laws.CopyRow
import Derived.StillTailTactics
import Derived.Deep.RegionLaw
import Derived.Handy
import Derived.Deep.CutRange
import Derived.Deep.CutBlock
import Derived.Test.YtdnnfoojdfmajaaR8
namespace Go.Proofs.Ytdnnfoojdfmajaa
open Go.RowKit
set_option linter.unusedVariables false
set_option linter.unusedSimpArgs false

theorem sm_prod {a p : Int} (h : p ≤ 56 ∧ 0 ≤ p) (h1 : 0 ≤ a) (h2 : a < 4096) : wrap64 p = p ∧ wrap64 (a + p) = a + p := ⟨IntWalk.wrap64_in _ (by omega), IntWalk.wrap64_in _ (by omega)⟩
theorem sm_bd {a p : Int} (h : p ≤ 56 ∧ 0 ≤ p) (h1 : 0 ≤ a) (h2 : a < 4096) : -10000 ≤ a + p ∧ a + p ≤ 10000 := by omega
theorem eq38 (a b c d e f : Bool) (w : World) : (Op.equalIn 10000 38 (.agg #[.bool a, .bool b, .bool c]) (.agg #[.bool d, .bool e, .bool f])).run Try.prog w = .ok (a == d && (b == e && c == f)) w := by
  obtain ⟨i, hi, _⟩ := info_parts (show (Try.prog.info? 4).map (fun i => (i.zero, i.size, i.bytes)) = some (some (.bool false), 1, 1) by kernel_rfl)
  have e' := run_equalIn_array (P := Try.prog) w 9999 (t := 38) (e := 4) (n := 3) #[.bool a, .bool b, .bool c] #[.bool d, .bool e, .bool f] (by kernel_rfl) hi
  rw [show Try.prog.cellsOf 4 = 1 by kernel_rfl, show List.range 3 = [0, 1, 2] from rfl] at e'
  rw [e']
  have hu : Try.prog.underlying 4 = some .bool := by kernel_rfl
  have p0 : ∀ (x y z : Bool) (w : World), (part 4 #[.bool x, .bool y, .bool z] 0).run Try.prog w = .ok (.bool x) w := fun x y z w => by simp [part, isAgg, run_underlying hu]
  have p1 : ∀ (x y z : Bool) (w : World), (part 4 #[.bool x, .bool y, .bool z] 1).run Try.prog w = .ok (.bool y) w := fun x y z w => by simp [part, isAgg, run_underlying hu]
  have p2 : ∀ (x y z : Bool) (w : World), (part 4 #[.bool x, .bool y, .bool z] 2).run Try.prog w = .ok (.bool z) w := fun x y z w => by simp [part, isAgg, run_underlying hu]
  have q : ∀ (x y : Bool) (w : World), (Op.equalIn 9999 4 (.bool x) (.bool y)).run Try.prog w = .ok (x == y) w := fun x y w => run_equalIn_bool w 9998 4 x y hu
  simp only [Op.eqItems, Nat.zero_mul, Nat.one_mul, Sem.run_bind, p0, p1, p2, q, Result.andThen_ok]
  cases h : (a == d)
  · simp
  · cases h2 : (b == e)
    · simp [p1, q, h2]
    · cases h3 : (c == f) <;> simp [p1, p2, q, h2, h3]
theorem cellsX (x : X) (w : World) (B : Nat) (hz : w.heap[B]? = some (.cells #[.int .i64 ((x.p : Nat) : Int), .int .i64 (3 * ((x.k : Nat) : Int)), .int .i64 x.v, .bool x.a, .bool x.b, .bool x.c] 40)) : w.cell? ⟨B, 0, none⟩ = some (.int .i64 ((x.p : Nat) : Int)) ∧ w.cell? ⟨B, 1, none⟩ = some (.int .i64 (3 * ((x.k : Nat) : Int))) ∧ w.cell? ⟨B, 2, none⟩ = some (.int .i64 x.v) ∧ w.cell? ⟨B, 3, none⟩ = some (.bool x.a) ∧ w.cell? ⟨B, 4, none⟩ = some (.bool x.b) ∧ w.cell? ⟨B, 5, none⟩ = some (.bool x.c) :=
  ⟨cell_of_row _ _ 0 _ 40 _ hz, cell_of_row _ _ 1 _ 40 _ hz, cell_of_row _ _ 2 _ 40 _ hz, cell_of_row _ _ 3 _ 40 _ hz, cell_of_row _ _ 4 _ 40 _ hz, cell_of_row _ _ 5 _ 40 _ hz⟩
theorem join_end {w2 w6 w7 : World} {r B : Nat} {F F5 : List Nat} {L : List X} (h26 : Below w2.heap.size w2 w6) (hc : Chg F F5 w6 w7) (hr : Rt w7 r F5 L) (hb : B ∉ F5) (hB : w2.heap.size ≤ B) (u : Value) : Rt (w7.setCell ⟨B, 1, none⟩ u) r F5 L ∧ Chg F F5 w2 (w7.setCell ⟨B, 1, none⟩ u) := by
  refine ⟨hr.chg ((Chg.refl [B] w7).setCell B 1 u (by simp)) (fun b h1 h2 => hb (by simp at h2; exact h2 ▸ h1)), ?_⟩
  obtain ⟨a1, a2, a3, a4, a5, a6⟩ := (Chg.of_below (F := F) h26).trans hc
  have c2 : Chg F (B :: F5) w2 w7 := ⟨a1, a2, a3, a4, a5, fun b hb => by
    rcases List.mem_cons.1 hb with rfl | hb
    · exact .inr hB
    · exact a6 b hb⟩
  exact (c2.setCell B 1 u (by simp)).sub fun b hb => by simp [hb]
/-- How Join ends. -/
def JEnd (w : World) (r : Nat) (F : List Nat) (L : List X) (k P : Nat) (e : Ending) (w' : World) : Prop :=
  (∃ j, j < 8 ∧ (∀ i, i < j → Whole L k (8 * P + i)) ∧ ((Parts L k (8 * P + j) ∧ e = .returned (.int .i64 5)) ∨ (Empty L k (8 * P + j) ∧ e = .returned (.int .i64 6))) ∧ Below w.heap.size w w') ∨
  (∃ i Y, Row8 L i k P Y ∧ ((¬ AlkY Y ∧ e = .returned (.int .i64 5) ∧ Below w.heap.size w w') ∨
    (AlkY Y ∧ e = .returned (.int .i64 0) ∧ ∃ F', Chg F F' w w' ∧ Rt w' r F' (ins ⟨(Y 0).p, k + 1, (Y 0).v, (Y 0).a, (Y 0).b, (Y 0).c⟩ (dl i 8 L)))))
set_option maxRecDepth 100000 in
set_option maxHeartbeats 16000000 in
theorem RJoin_any (g : Nat) (i : Nat) (x : X) (r : Nat) (F : List Nat) (L : List X) (w : World) (h : Rt w r F L) (hg : Good L) (hm : L.length ≤ 4500) (hi : L[i]? = some x) (hc : CovI x (g : Nat)) (hk : x.k ≤ 1) (kk P : Nat) (hkk : x.k = kk) (hP : g / 8 ^ (x.k + 1) = P) : Calls Try.prog 52 #[.pointer (some ⟨r, 0, none⟩), .int .i64 (g : Nat)] w fun e w' => JEnd w r F L kk P e w' := by
  have HG0 := Lib.hid (And.intro h (And.intro hg (And.intro hm (And.intro hi hc))))
  have HK0 := Lib.hid hk
  have hg4 : g < 4096 := by have := cov_page (hg.1 x (List.mem_of_getElem? hi)) hc; omega
  have HKP := Lib.hid (And.intro hkk hP)
  clear hk hP hkk
  have hil : i < L.length := (List.getElem?_eq_some_iff.1 hi).1
  have hxok := hg.1 x (List.mem_of_getElem? hi)
  have HF := Lib.hid (RFind_ok (g : Nat) i x r F L w (cov_page hxok hc) h hg hi hc)
  have HR := Lib.hid (And.intro h (And.intro hi hm))
  have HXO := Lib.hid hxok
  clear h hg hm hi hc hxok
  go_enter Try.func52, Try.ntmps52
  go_wp2_with fail
  refine HF.out.mono ?_
  rintro e w1 ⟨rfl, hb⟩
  have HB := Lib.hid hb
  have HT := Lib.hid (HR.out.1.below hb)
  clear hb HF
  obtain ⟨ao, cap, c0, hT, _⟩ := HT.out.cells
  obtain ⟨bl, cl2, hv, _, _, hbl, hcell, _⟩ := hT.read (ne_nil_of_lt hil)
  cases hv
  obtain ⟨e0, e1, e2, e3, e4, e5⟩ := hcell i _ HR.out.2.1
  have hiI : ((i : Nat) : Int) < ((L.length : Nat) : Int) := by omega
  have hi0 : (0 : Int) ≤ ((i : Nat) : Int) := by omega
  clear hcell hT hbl
  have HSZ := Lib.hid (fun W => siz_at HXO.out.1 W)
  have hk1 : kk ≤ 1 := by rw [← HKP.out.1]; exact HK0.out
  rw [HKP.out.1] at e1 HSZ
  have hP := HKP.out.2
  rw [HKP.out.1] at hP
  obtain ⟨sz, hsz⟩ : ∃ sz, 8 ^ kk = sz := ⟨_, rfl⟩
  have hsz8 : sz = 1 ∨ sz = 8 := by rw [← hsz]; rcases (show kk = 0 ∨ kk = 1 by omega) with e | e <;> rw [e] <;> simp
  have hPs : g / (8 * sz) = P := by rw [← hP, ← hsz, Nat.pow_succ, Nat.mul_comm]
  obtain ⟨fp, hfp⟩ : ∃ fp, 8 * P * sz = fp := ⟨_, rfl⟩
  have hrm0 : ¬ (8 * ((sz : Nat) : Int) = 0) := by omega
  have hfpI : ((g : Nat) : Int) - ((g : Nat) : Int) % (8 * ((sz : Nat) : Int)) = ((fp : Nat) : Int) := by
    rw [← hfp]
    rcases hsz8 with e | e <;> rw [e] at hPs ⊢ <;> omega
  have hrb : 0 ≤ ((g : Nat) : Int) % (8 * ((sz : Nat) : Int)) ∧ ((g : Nat) : Int) % (8 * ((sz : Nat) : Int)) ≤ 4096 := by
    rcases hsz8 with e | e <;> rw [e] <;> omega
  have hfb : fp < 4096 := by have := hrb.1; omega
  have HFP := Lib.hid (And.intro hfp (And.intro hsz hsz8))
  have hs8 : sz ≤ 8 := by omega
  rw [hsz] at HSZ
  obtain ⟨oo, hoo⟩ : ∃ oo, 3 * ((kk : Nat) : Int) = oo := ⟨_, rfl⟩
  have hob : 0 ≤ oo ∧ oo ≤ 3 := by omega
  have ho6 : ¬ (oo = 6) := by omega
  rw [hoo] at e1 HSZ
  have HOO := Lib.hid (And.intro hoo hk1)
  have HFB := Lib.hid (show (0 : Int) ≤ ((fp : Nat) : Int) ∧ ((fp : Nat) : Int) < 4096 by omega)
  clear hP hfp hsz hsz8 hPs hoo hk1
  have HWW := Lib.hid (And.intro HT.out HB.out)
  clear HT HB
  go_upto_region 9 with (go_at_call 14; refine (HSZ.out _).mono ?_; rintro e w2 ⟨rfl, rfl⟩)
  clear e0 e1 e2 e3 e4 e5 c0 hrm0 hfpI hrb ho6
  have hk2 : kk ≤ 2 := by have := HOO.out.2; omega
  go_wp2_with fail
  go_loopw [10] (fun s wr => ∃ (k : Nat), k ≤ 8 ∧ s = .int .i64 (k : Nat) ∧ RowKit.Hid (Below w2.heap.size w2 wr ∧ ∀ j, j < k → Whole L kk (8 * P + j))) (fun s _ => 8 - (intOf s).toNat)
  case atStart => exact ⟨0, by omega, rfl, Lib.hid ⟨Below.refl _ _, fun j hj => absurd hj (Nat.not_lt_zero _)⟩⟩
  case round =>
    obtain ⟨k, hk8, rfl, HL⟩ := hrel
    by_cases hk : k < 8
    · have hkI : ((k : Nat) : Int) < 8 := by omega
      have hks : k * sz ≤ 7 * 8 := Nat.mul_le_mul (by omega) hs8
      have hksI : ((k : Nat) : Int) * ((sz : Nat) : Int) ≤ 56 ∧ 0 ≤ ((k : Nat) : Int) * ((sz : Nat) : Int) := by rw [← Int.natCast_mul]; omega
      obtain ⟨q1, q2⟩ := sm_prod hksI HFB.out.1 HFB.out.2
      have HBD := Lib.hid (sm_bd hksI HFB.out.1 HFB.out.2)
      have HF8 := Lib.hid (show ((fp : Nat) : Int) + ((k : Nat) : Int) * ((sz : Nat) : Int) = (((8 * P + k) * 8 ^ kk : Nat) : Int) by rw [← HFP.out.1, HFP.out.2.1, Nat.add_mul]; push_cast; rfl)
      have HNUM := Lib.hid (And.intro hs8 (And.intro hfb (And.intro hg4 hob)))
      clear hks hksI hs8 hfb hg4 hob hk8
      go_wp2_with fail
      refine (RAt_any _ r F L wr (HWW.out.1.below HL.out.1) HG0.out.2.1).mono ?_
      rintro e w5 ⟨hb5, he⟩
      have HB5 := Lib.hid (HL.out.1.trans (hb5.mono HL.out.1.size))
      clear hb5
      rcases he with ⟨hno, rfl⟩ | ⟨j, y, hj, hcv, rfl⟩
      · have HN := Lib.hid hno
        clear hno
        go_wp2_with fail
        refine (Rany_any _ sz r F L w5 (HWW.out.1.below HB5.out) HG0.out.2.1 HBD.out (by have := HNUM.out.1; omega)).mono ?_
        rintro e w6 ⟨hb6, he⟩
        have HB6 := Lib.hid (HB5.out.trans (hb6.mono HB5.out.size))
        clear hb6
        rcases he with ⟨rfl, m, hm, y, hy, hcy⟩ | ⟨rfl, hnn⟩
        · have HP5 : RowKit.Hid (Parts L kk (8 * P + k)) := Lib.hid (by
            rw [HF8.out, ← Int.natCast_add, CovI.iff] at hcy
            have hn := HN.out y hy
            rw [HF8.out, CovI.iff] at hn
            rw [← HFP.out.2.1] at hm
            obtain ⟨p1, p2⟩ := slot_parts HG0.out.2.1 hy hk2 hm hcy hn
            exact ⟨y, hy, p1, p2⟩)
          clear hm hy hcy
          go_wp2_with fail
          go_ret
          exact .inl ⟨k, hk, HL.out.2, .inl ⟨HP5.out, rfl⟩, HWW.out.2.trans (HB6.out.mono HWW.out.2.size)⟩
        · have HP5 : RowKit.Hid (Empty L kk (8 * P + k)) := Lib.hid (fun y hy m hm => by
            rw [HFP.out.2.1] at hm
            have := hnn m hm y hy
            rw [HF8.out, ← Int.natCast_add, CovI.iff] at this
            exact this)
          clear hnn
          go_wp2_with fail
          go_ret
          exact .inl ⟨k, hk, HL.out.2, .inr ⟨HP5.out, rfl⟩, HWW.out.2.trans (HB6.out.mono HWW.out.2.size)⟩
      · have HC := Lib.hid (And.intro hj hcv)
        have hjl : j < L.length := (List.getElem?_eq_some_iff.1 hj).1
        have hyk := (HG0.out.2.1.1 y (List.mem_of_getElem? hj)).1
        obtain ⟨ao, cap, c0, hT, _⟩ := (HWW.out.1.below HB5.out).cells
        obtain ⟨bl, cl2, hv, _, _, hbl, hcell, _⟩ := hT.read (ne_nil_of_lt hjl)
        cases hv
        obtain ⟨_, e1, _⟩ := hcell j _ hj
        have hjI : ((j : Nat) : Int) < ((L.length : Nat) : Int) := by omega
        have hj0 : (0 : Int) ≤ ((j : Nat) : Int) := by omega
        clear hcell hT hbl hj hcv
        have HCV : RowKit.Hid (Cov y ((8 * P + k) * 8 ^ kk)) := Lib.hid (by have := HC.out.2; rw [HF8.out, CovI.iff] at this; exact this)
        have HYK : RowKit.Hid (¬ kk < y.k) := Lib.hid (by
          have := slot_big HG0.out.2.1 (List.mem_of_getElem? HG0.out.2.2.2.1) (List.mem_of_getElem? HC.out.1) (P := P) hk HK0.out
          rw [HKP.out.1] at this
          refine this ?_ HCV.out
          have hh := (HXO.out.cov g).1 (CovI.iff.1 HG0.out.2.2.2.2)
          have := div_up (Nat.le_succ x.k) hh
          rw [HKP.out.1] at this
          rw [this, ← HKP.out.2, HKP.out.1])
        obtain ⟨yo, hyo⟩ : ∃ yo, 3 * ((y.k : Nat) : Int) = yo := ⟨_, rfl⟩
        have HYO := Lib.hid hyo
        rw [hyo] at e1
        clear hyo hyk
        by_cases hy : yo = oo
        · subst hy
          have HWH : RowKit.Hid (Whole L kk (8 * P + k)) := Lib.hid (by
            have he : y.k = kk := by have := HYO.out; have := HOO.out.1; omega
            exact ⟨y, List.mem_of_getElem? HC.out.1, he, (slot_cov HG0.out.2.1 (List.mem_of_getElem? HC.out.1) hk2 HCV.out (by omega)).1⟩)
          go_wp2_with fail
          exact ⟨⟨k + 1, hk, by simp, Lib.hid ⟨HB5.out, fun m hm => by
            by_cases e : m = k
            · subst e; exact HWH.out
            · exact HL.out.2 m (by omega)⟩⟩, by simp [intOf]; omega⟩
        · have hne : (yo != oo) = true := bne_iff_ne.2 hy
          have HPA : RowKit.Hid (Parts L kk (8 * P + k)) := Lib.hid (by
            have he : y.k < kk := by have := HYO.out; have := HOO.out.1; have := HYK.out; omega
            exact ⟨y, List.mem_of_getElem? HC.out.1, he, (slot_cov HG0.out.2.1 (List.mem_of_getElem? HC.out.1) hk2 HCV.out (by omega)).2⟩)
          clear hy
          go_wp2_with fail
          go_ret
          exact .inl ⟨k, hk, HL.out.2, .inl ⟨HPA.out, rfl⟩, HWW.out.2.trans (HB5.out.mono HWW.out.2.size)⟩
    · obtain rfl : k = 8 := by omega
      clear hs8 hfb hg4 hob
      have hw0 := HL.out.2 0 (by omega)
      obtain ⟨y0, hy0, yk, yp⟩ := hw0
      obtain ⟨i0, hi0⟩ := List.getElem?_of_mem hy0
      have hcov0 : CovI y0 ((fp : Nat) : Int) := CovI.iff.2 ⟨by rw [yp, ← HFP.out.1, HFP.out.2.1]; exact Nat.le_refl _, by rw [yp, ← HFP.out.1, yk, HFP.out.2.1]; exact Nat.lt_add_of_pos_right (by have := HFP.out.2.2; omega)⟩
      have HAT := Lib.hid (RAt_ok _ i0 y0 r F L wr (HWW.out.1.below HL.out.1) HG0.out.2.1 hi0 hcov0)
      obtain ⟨Y, hY⟩ := row8 HG0.out.2.1 hi0 yk yp HL.out.2
      have HY := Lib.hid hY
      clear hy0 yk yp hi0 hcov0 hY
      go_wp2_with fail
      refine HAT.out.mono ?_
      rintro e w5 ⟨rfl, hb5⟩
      have HB5 := Lib.hid (HL.out.1.trans (hb5.mono HL.out.1.size))
      clear hb5 HL HAT
      have HT5 := Lib.hid (HWW.out.1.below HB5.out)
      go_wp2_with fail
      have HI8 : RowKit.Hid (i0 + 8 ≤ L.length) := Lib.hid (by have := (List.getElem?_eq_some_iff.1 (HY.out 7 (by omega)).1).1; omega)
      have hlen : L.length ≤ 4500 := HG0.out.2.2.1
      go_loopw [12] (fun s wx => ∃ n : Nat, 1 ≤ n ∧ n ≤ 8 ∧ s = .int .i64 (n : Nat) ∧ RowKit.Hid (Below w5.heap.size w5 wx ∧ ∀ j, 1 ≤ j → j < n → (Y j).v - (Y (j - 1)).v = (Y 1).v - (Y 0).v)) (fun s _ => 8 - (intOf s).toNat)
      case atStart => exact ⟨1, by omega, by omega, rfl, Lib.hid ⟨Below.refl _ _, fun j h1 h2 => absurd h2 (by omega)⟩⟩
      case round =>
        obtain ⟨n, hn1, hn, rfl, HM⟩ := hrel
        have HTX := Lib.hid (HT5.out.below HM.out.1)
        by_cases hn8 : n < 8
        · have hnI : ((n : Nat) : Int) < 8 := by omega
          have hi8 := HI8.out
          obtain ⟨ao, cap, c0, hT, _⟩ := HTX.out.cells
          obtain ⟨bl, cl2, hv, _, _, hbl, hcell, _⟩ := hT.read (ne_nil_of_lt (show i0 < L.length by omega))
          cases hv
          obtain ⟨_, _, f1, _⟩ := hcell _ _ (HY.out n (by omega)).1
          obtain ⟨_, _, f2, _⟩ := hcell _ _ (HY.out (n - 1) (by omega)).1
          obtain ⟨_, _, f3, _⟩ := hcell _ _ (HY.out 1 (by omega)).1
          obtain ⟨_, _, f4', _⟩ := hcell _ _ (HY.out 0 (by omega)).1
          have f4 : wr.cell? ⟨bl, i0 * 6 + 2, none⟩ = some (.int .i64 (Y 0).v) := f4'
          obtain ⟨a, ha⟩ : ∃ a, i0 + n = a := ⟨_, rfl⟩
          obtain ⟨b, hb⟩ : ∃ b, i0 + (n - 1) = b := ⟨_, rfl⟩
          obtain ⟨c, hc⟩ : ∃ c, i0 + 1 = c := ⟨_, rfl⟩
          rw [ha] at f1
          rw [hb] at f2
          rw [hc] at f3
          have q1 : IntKind.i64.wrap (((i0 : Nat) : Int) + ((n : Nat) : Int)) = ((a : Nat) : Int) := by rw [IntKind.wrap_i64]; omega
          have q2 : IntKind.i64.wrap (((a : Nat) : Int) - 1) = ((b : Nat) : Int) := by rw [IntKind.wrap_i64]; omega
          have q3 : IntKind.i64.wrap (((i0 : Nat) : Int) + 1) = ((c : Nat) : Int) := by rw [IntKind.wrap_i64]; omega
          have b1 : ((a : Nat) : Int) < ((L.length : Nat) : Int) ∧ ((b : Nat) : Int) < ((L.length : Nat) : Int) ∧ ((c : Nat) : Int) < ((L.length : Nat) : Int) ∧ ((i0 : Nat) : Int) < ((L.length : Nat) : Int) := by omega
          obtain ⟨b1, b2, b3, b4⟩ := b1
          have b5 : (0 : Int) ≤ ((a : Nat) : Int) ∧ (0 : Int) ≤ ((b : Nat) : Int) ∧ (0 : Int) ≤ ((c : Nat) : Int) ∧ (0 : Int) ≤ ((i0 : Nat) : Int) := by omega
          obtain ⟨b5, b6, b7, b8⟩ := b5
          have VR := fun j (hj : j < 8) => (HG0.out.2.1.1 (Y j) (List.mem_of_getElem? (HY.out j hj).1)).2.2.2
          unfold big at VR
          have w1 : IntKind.i64.wrap ((Y n).v - (Y (n - 1)).v) = (Y n).v - (Y (n - 1)).v := by have := VR n (by omega); have := VR (n - 1) (by omega); rw [IntKind.wrap_i64]; omega
          have w2 : IntKind.i64.wrap ((Y 1).v - (Y 0).v) = (Y 1).v - (Y 0).v := by have := VR 1 (by omega); have := VR 0 (by omega); rw [IntKind.wrap_i64]; omega
          have HA := Lib.hid (And.intro w1 w2)
          obtain ⟨d1, hd1⟩ : ∃ d1, IntKind.i64.wrap ((Y n).v - (Y (n - 1)).v) = d1 := ⟨_, rfl⟩
          obtain ⟨d2, hd2⟩ : ∃ d2, IntKind.i64.wrap ((Y 1).v - (Y 0).v) = d2 := ⟨_, rfl⟩
          have HD := Lib.hid (And.intro (w1.symm.trans hd1) (w2.symm.trans hd2))
          clear VR w1 w2 HA hT hbl hcell ha hb hc f4'
          obtain ⟨y1, hy1⟩ : ∃ y, (Y n).v = y := ⟨_, rfl⟩
          obtain ⟨y2, hy2⟩ : ∃ y, (Y (n - 1)).v = y := ⟨_, rfl⟩
          obtain ⟨y3, hy3⟩ : ∃ y, (Y 1).v = y := ⟨_, rfl⟩
          obtain ⟨y4, hy4⟩ : ∃ y, (Y 0).v = y := ⟨_, rfl⟩
          rw [hy1] at f1 hd1
          rw [hy2] at f2 hd1
          rw [hy3] at f3 hd2
          rw [hy4] at f4 hd2
          clear hy1 hy2 hy3 hy4
          by_cases hd : d1 = d2
          · subst hd
            go_upto_region 23 with fail
            go_quiet (fail)
            have HN := Lib.hid (below_drewN HM.out.1 nq)
            clear f1 f2 f3 f4 q1 q2 q3 b1 b2 b3 b4 b5 b6 b7 b8 hd1 hd2
            go_wp2_with fail
            exact ⟨⟨n + 1, by omega, by omega, by simp, Lib.hid ⟨HN.out, fun j h1 h2 => by
              by_cases e : j = n
              · subst e; exact HD.out.1.trans HD.out.2.symm
              · exact HM.out.2 j h1 (by omega)⟩⟩, by simp [intOf]; omega⟩
          · have hne : (d1 != d2) = true := bne_iff_ne.2 hd
            go_upto_region 23 with fail
            go_quiet (fail)
            have HN := Lib.hid (below_drewN HM.out.1 nq)
            clear f1 f2 f3 f4 q1 q2 q3 b1 b2 b3 b4 b5 b6 b7 b8 hd1 hd2
            go_wp2_with fail
            go_ret
            exact .inr ⟨i0, Y, HY.out, .inl ⟨fun hA => hd (by have := hA.1 n hn1 hn8; rw [HD.out.1, HD.out.2] at this; exact this), rfl, HWW.out.2.trans ((HB5.out.trans (HN.out.mono HB5.out.size)).mono HWW.out.2.size)⟩⟩
        · obtain rfl : n = 8 := by omega
          go_wp2_with fail
          go_loopw [13] (fun s wx => ∃ n : Nat, 1 ≤ n ∧ n ≤ 8 ∧ s = .int .i64 (n : Nat) ∧ RowKit.Hid (Below w5.heap.size w5 wx ∧ ∀ j, 1 ≤ j → j < n → (Y j).a = (Y 0).a ∧ (Y j).b = (Y 0).b ∧ (Y j).c = (Y 0).c)) (fun s _ => 8 - (intOf s).toNat)
          case atStart => exact ⟨1, by omega, by omega, rfl, Lib.hid ⟨HM.out.1, fun j h1 h2 => absurd h2 (by omega)⟩⟩
          case round =>
            obtain ⟨n, hn1, hn, rfl, HO⟩ := hrel
            clear HTX
            have HTX := Lib.hid (HT5.out.below HO.out.1)
            obtain ⟨ao, cap, c0, hT, _⟩ := HTX.out.cells
            have hi8 := HI8.out
            obtain ⟨bl, cl2, hv, _, _, hbl, hcell, _⟩ := hT.read (ne_nil_of_lt (show i0 < L.length by omega))
            cases hv
            obtain ⟨g0', g1', g2', g3', g4', g5'⟩ := hcell _ _ (HY.out 0 (by omega)).1
            have b4 : ((i0 : Nat) : Int) < ((L.length : Nat) : Int) := by omega
            have b8 : (0 : Int) ≤ ((i0 : Nat) : Int) := by omega
            by_cases hn8 : n < 8
            · have hnI : ((n : Nat) : Int) < 8 := by omega
              obtain ⟨_, _, _, f1, f2, f3⟩ := hcell _ _ (HY.out n (by omega)).1
              have g1 : wr.cell? ⟨bl, i0 * 6 + 3, none⟩ = some (.bool (Y 0).a) := g3'
              have g2 : wr.cell? ⟨bl, i0 * 6 + 4, none⟩ = some (.bool (Y 0).b) := g4'
              have g3 : wr.cell? ⟨bl, i0 * 6 + 5, none⟩ = some (.bool (Y 0).c) := g5'
              obtain ⟨a, ha⟩ : ∃ a, i0 + n = a := ⟨_, rfl⟩
              rw [ha] at f1 f2 f3
              have q1 : IntKind.i64.wrap (((i0 : Nat) : Int) + ((n : Nat) : Int)) = ((a : Nat) : Int) := by rw [IntKind.wrap_i64]; omega
              have b1 : ((a : Nat) : Int) < ((L.length : Nat) : Int) := by omega
              have b5 : (0 : Int) ≤ ((a : Nat) : Int) := by omega
              clear g0' g1' g2' g3' g4' g5' hT hbl hcell ha
              by_cases hd : (Y n).a = (Y 0).a ∧ (Y n).b = (Y 0).b ∧ (Y n).c = (Y 0).c
              · have HD := Lib.hid hd
                obtain ⟨h1, h2, h3⟩ := hd
                rw [h1] at f1
                rw [h2] at f2
                rw [h3] at f3
                clear h1 h2 h3
                have heq : ∀ W, (Op.equalIn 10000 38 (.agg #[.bool (Y 0).a, .bool (Y 0).b, .bool (Y 0).c]) (.agg #[.bool (Y 0).a, .bool (Y 0).b, .bool (Y 0).c])).run Try.prog W = .ok true W := fun W => by rw [eq38]; simp
                go_upto_region 28 with fail
                go_quiet (fail)
                have HN := Lib.hid (below_drewN HO.out.1 nq)
                clear f1 f2 f3 g1 g2 g3 q1 b1 b4 b5 b8 heq
                go_wp2_with fail
                exact ⟨⟨n + 1, by omega, by omega, by simp, Lib.hid ⟨HN.out, fun j h1 h2 => by
                  by_cases e : j = n
                  · subst e; exact HD.out
                  · exact HO.out.2 j h1 (by omega)⟩⟩, by simp [intOf]; omega⟩
              · have HD := Lib.hid hd
                have heq : ∀ W, (Op.equalIn 10000 38 (.agg #[.bool (Y n).a, .bool (Y n).b, .bool (Y n).c]) (.agg #[.bool (Y 0).a, .bool (Y 0).b, .bool (Y 0).c])).run Try.prog W = .ok false W := fun W => by
                  rw [eq38]
                  have : ((Y n).a == (Y 0).a && ((Y n).b == (Y 0).b && (Y n).c == (Y 0).c)) = false := by
                    cases hh : ((Y n).a == (Y 0).a && ((Y n).b == (Y 0).b && (Y n).c == (Y 0).c)) with
                    | false => rfl
                    | true => simp at hh; exact absurd hh hd
                  rw [this]
                clear hd
                go_upto_region 28 with fail
                go_quiet (fail)
                have HN := Lib.hid (below_drewN HO.out.1 nq)
                clear f1 f2 f3 g1 g2 g3 q1 b1 b4 b5 b8 heq
                go_wp2_with fail
                go_ret
                exact .inr ⟨i0, Y, HY.out, .inl ⟨fun hA => HD.out (hA.2 n hn1 hn8), rfl, HWW.out.2.trans ((HB5.out.trans (HN.out.mono HB5.out.size)).mono HWW.out.2.size)⟩⟩
            · obtain rfl : n = 8 := by omega
              have g0 : wr.cell? ⟨bl, i0 * 6, none⟩ = some (.int .i64 ((Y 0).p : Nat)) := g0'
              have g1 : wr.cell? ⟨bl, i0 * 6 + 1, none⟩ = some (.int .i64 (3 * (((Y 0).k : Nat) : Int))) := g1'
              have g2 : wr.cell? ⟨bl, i0 * 6 + 2, none⟩ = some (.int .i64 (Y 0).v) := g2'
              have g3 : wr.cell? ⟨bl, i0 * 6 + 3, none⟩ = some (.bool (Y 0).a) := g3'
              have g4 : wr.cell? ⟨bl, i0 * 6 + 4, none⟩ = some (.bool (Y 0).b) := g4'
              have g5 : wr.cell? ⟨bl, i0 * 6 + 5, none⟩ = some (.bool (Y 0).c) := g5'
              have HA := Lib.hid (show Below wr.heap.size wr (wr.alloc (.cells #[.int .i64 (((Y 0).p : Nat) : Int), .int .i64 (3 * (((Y 0).k : Nat) : Int)), .int .i64 (Y 0).v, .bool (Y 0).a, .bool (Y 0).b, .bool (Y 0).c] 40)) from (Below.refl _ _).alloc (Nat.le_refl _) _)
              clear g0' g1' g2' g3' g4' g5' hT hbl hcell
              go_upto_region 31 with fail
              clear g0 g1 g2 g3 g4 g5 c0
              have hz := heap_alloc_new wr (.cells #[.int .i64 (((Y 0).p : Nat) : Int), .int .i64 (3 * (((Y 0).k : Nat) : Int)), .int .i64 (Y 0).v, .bool (Y 0).a, .bool (Y 0).b, .bool (Y 0).c] 40)
              have HT6 := Lib.hid (HTX.out.below HA.out)
              have HB6 := Lib.hid (And.intro (HB5.out.trans ((HO.out.1.trans (HA.out.mono HO.out.1.size)).mono HB5.out.size)) (And.intro (show wr.heap.size < (wr.alloc (.cells #[.int .i64 (((Y 0).p : Nat) : Int), .int .i64 (3 * (((Y 0).k : Nat) : Int)), .int .i64 (Y 0).v, .bool (Y 0).a, .bool (Y 0).b, .bool (Y 0).c] 40)).heap.size from lt_of_block (heap_alloc_new _ _)) (And.intro HTX.out.lt (Nat.le_trans HB5.out.size HO.out.1.size))))
              have HZ := Lib.hid hz
              clear HA hz
              generalize wr.heap.size = B4 at *
              generalize wr.alloc (.cells #[.int .i64 (((Y 0).p : Nat) : Int), .int .i64 (3 * (((Y 0).k : Nat) : Int)), .int .i64 (Y 0).v, .bool (Y 0).a, .bool (Y 0).b, .bool (Y 0).c] 40) = w6 at *
              clear b4 b8
              go_wp2_with fail
              refine (Rdrop_any i0 8 r F L w6 HT6.out (by omega) (by omega) (by omega)).mono ?_
              rintro e w7 ⟨rfl, F5, hc5, hr5⟩
              have hbf : B4 ∉ F := fun hm => Nat.lt_irrefl _ (HB6.out.2.2.1 B4 hm)
              have HC5 := Lib.hid (And.intro hc5 (And.intro hr5 (And.intro hbf (Chg.out hc5 hbf HB6.out.2.1))))
              have hz7 : w7.heap[B4]? = some (.cells #[.int .i64 (((Y 0).p : Nat) : Int), .int .i64 (3 * (((Y 0).k : Nat) : Int)), .int .i64 (Y 0).v, .bool (Y 0).a, .bool (Y 0).b, .bool (Y 0).c] 40) := (hc5.block HB6.out.2.1 hbf).trans HZ.out
              obtain ⟨e0, e1, e2, e3, e4, e5⟩ := cellsX (Y 0) w7 B4 hz7
              have ef := frozen_of_row _ _ 1 _ 40 hz7
              have hoo : oo ≤ 3 ∧ 0 ≤ oo := by have := HOO.out; omega
              have qo : wrap64 (oo + 3) = oo + 3 := IntWalk.wrap64_in _ (by omega)
              have HYK : RowKit.Hid ((Y 0).k = kk ∧ 3 * (((Y 0).k : Nat) : Int) = oo) := Lib.hid ⟨(HY.out 0 (by omega)).2.1, by rw [(HY.out 0 (by omega)).2.1]; exact HOO.out.1⟩
              rw [HYK.out.2] at e1
              clear hz7 hc5 hr5 hbf
              have HC6 := Lib.hid (join_end HB6.out.1 HC5.out.1 HC5.out.2.1 HC5.out.2.2.2 HB6.out.2.2.2 (.int .i64 (oo + 3)))
              have HPU := Lib.hid (fun W FF (hW : Rt W r FF (dl i0 8 L)) => Rput_any ⟨(Y 0).p, kk + 1, (Y 0).v, (Y 0).a, (Y 0).b, (Y 0).c⟩ r FF _ W hW (by have := dl_len i0 8 L; omega))
              have hk3 : 3 * ((kk + 1 : Nat) : Int) = oo + 3 := by have := HOO.out.1; omega
              simp only [hk3] at HPU
              clear hk3
              go_wp2_with (go_at_call 56; refine (HPU.out _ F5 HC6.out.1).mono ?_; rintro e w8 ⟨rfl, F8, hc8, hr8⟩; have H8 := Lib.hid (And.intro hc8 hr8); clear hc8 hr8)
              go_ret
              refine .inr ⟨i0, Y, HY.out, .inr ⟨⟨HM.out.2, HO.out.2⟩, rfl, F8, ?_, H8.out.2⟩⟩
              exact (Chg.of_below HWW.out.2).trans (HC6.out.2.trans H8.out.1)

end Go.Proofs.Ytdnnfoojdfmajaa
