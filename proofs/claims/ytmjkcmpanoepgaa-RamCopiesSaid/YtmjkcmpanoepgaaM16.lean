/- Parts of the proofs of layer 2 (ram): contracts of its functions, and the laws' walks. -/
import Derived.Test.YtmjkcmpanoepgaaProg
import Derived.WalkKit
import Derived.WalkSpells
import Derived.WalkLawsBesides
import Derived.BigQuiet
import Derived.Deep.QuietTactic
import Derived.Lib.Hide
import Derived.Deep.RegionHeld3
import Derived.Deep.DeepCutAuto
import Derived.KernelRfl
import Derived.Deep.OwnRows
import Derived.Laws.CopyOwn
import Derived.Laws.CopyRow
import Derived.StillTailTactics
import Derived.ArgAppend
import Derived.Test.YtmjkcmpanoepgaaM14
namespace Go.Proofs.Ytmjkcmpanoepgaa
open Go.RowKit
set_option linter.unusedVariables false
set_option linter.unusedSimpArgs false

theorem sf_diff {n : Nat} {f : Nat → Int} {a x : Int} {i : Nat} (h : wv (sf n f a x) i ≠ wv f i) : wrg n a 8 = 0 ∧ a = 8 * (i : Int) := by
  unfold sf at h
  by_cases h0 : wrg n a 8 = 0
  · rw [if_pos h0] at h
    refine ⟨h0, ?_⟩
    obtain ⟨h1, h2, h3⟩ := wrg_no h0
    obtain ⟨k, rfl⟩ := Int.eq_ofNat_of_zero_le h1
    rw [Int.toNat_natCast] at h
    by_cases hk : k = 8 * i
    · omega
    · exfalso
      apply h
      exact wd_other f k (8 * i) x (by omega)
  · rw [if_neg h0] at h
    exact (h rfl).elim
theorem zf_diff {n : Nat} {f : Nat → Int} {a m : Int} {i : Nat} (h : wv (zf n f a m) i ≠ wv f i) : frm n a m = 0 ∧ 0 ≤ a ∧ a ≤ ((i : Nat) : Int) / 8 ∧ ((i : Nat) : Int) / 8 - a < m := by
  unfold zf at h
  by_cases h0 : frm n a m = 0
  · rw [if_pos h0] at h
    obtain ⟨h1, h2, h3⟩ := frm_ok h0
    obtain ⟨k, rfl⟩ := Int.eq_ofNat_of_zero_le h2
    obtain ⟨M, rfl⟩ := Int.eq_ofNat_of_zero_le (show 0 ≤ m by omega)
    rw [Int.toNat_natCast, Int.toNat_natCast] at h
    by_cases hk : k ≤ i / 8 ∧ i / 8 < k + M
    · exact ⟨h0, h2, by omega, by omega⟩
    · exfalso
      apply h
      exact wd_eq fun d hd => by unfold clr; rw [if_neg (by omega)]
  · rw [if_neg h0] at h
    exact (h rfl).elim
theorem cf_diff {n : Nat} {f : Nat → Int} {a l m : Int} {i : Nat} (h : wv (cf n f a l m) i ≠ wv f i) : cpe n a l m = 0 ∧ 0 ≤ a ∧ a ≤ ((i : Nat) : Int) / 8 ∧ ((i : Nat) : Int) / 8 - a < m := by
  unfold cf at h
  by_cases h0 : cpe n a l m = 0
  · rw [if_pos h0] at h
    obtain ⟨h1, h2, h3⟩ := frm_ok (cpe_ok h0).1
    obtain ⟨k, rfl⟩ := Int.eq_ofNat_of_zero_le h2
    obtain ⟨M, rfl⟩ := Int.eq_ofNat_of_zero_le (show 0 ≤ m by omega)
    rw [Int.toNat_natCast, Int.toNat_natCast] at h
    by_cases hk : k ≤ i / 8 ∧ i / 8 < k + M
    · exact ⟨h0, h2, by omega, by omega⟩
    · exfalso
      apply h
      exact wd_eq fun d hd => by unfold cpy; rw [if_neg (by omega)]
  · rw [if_neg h0] at h
    exact (h rfl).elim
/-- A call's struct lies in block B. -/
def Boxed (w : World) (B : Nat) (c0 c1 c2 c3 c4 : Int) : Prop := B < w.heap.size ∧ w.cell? ⟨B, 0, none⟩ = some (.int .i64 c0) ∧ w.cell? ⟨B, 1, none⟩ = some (.int .i64 c1) ∧ w.cell? ⟨B, 2, none⟩ = some (.int .i64 c2) ∧ w.cell? ⟨B, 3, none⟩ = some (.int .i64 c3) ∧ w.cell? ⟨B, 4, none⟩ = some (.int .u64 c4)
theorem Boxed.below {w w' : World} {B C : Nat} {c0 c1 c2 c3 c4 : Int} (h : Boxed w B c0 c1 c2 c3 c4) (hb : Below C w w') (hC : B < C) : Boxed w' B c0 c1 c2 c3 c4 := by
  obtain ⟨h, h0, h1, h2, h3, h4⟩ := h
  exact ⟨Nat.lt_of_lt_of_le h hb.size, (hb.cell (p := ⟨B, 0, none⟩) hC).trans h0, (hb.cell (p := ⟨B, 1, none⟩) hC).trans h1, (hb.cell (p := ⟨B, 2, none⟩) hC).trans h2, (hb.cell (p := ⟨B, 3, none⟩) hC).trans h3, (hb.cell (p := ⟨B, 4, none⟩) hC).trans h4⟩
theorem Boxed.drewN {w : World} {B : Nat} {c0 c1 c2 c3 c4 : Int} (h : Boxed w B c0 c1 c2 c3 c4) (k : Nat) : Boxed (w.drewN k) B c0 c1 c2 c3 c4 := h
theorem belowT {C : Nat} {w w1 w2 : World} (h : Below C w w1) (hs : C ≤ w1.heap.size) (k : Below w1.heap.size w1 w2) : Below C w w2 := h.trans (k.mono hs)
set_option maxRecDepth 100000 in
set_option maxHeartbeats 8000000 in
theorem apart_law (ao : Option Addr) (len cap : Nat) (z : Nat → Nat → Int) (c0 c1 c2 c3 c4 : Int) (w : World) (hlc : len ≤ cap) (hcm : cap ≤ maxLen) (hA : Acts w ao len z) (r1 : -9223372036854775808 ≤ c1 ∧ c1 < 9223372036854775808) (r2 : -9223372036854775808 ≤ c2 ∧ c2 < 9223372036854775808) (r4 : 0 ≤ c4 ∧ c4 < 18446744073709551616) :
    Calls Try.prog 6 #[.slice ao len cap, .agg #[.int .i64 c0, .int .i64 c1, .int .i64 c2, .int .i64 c3, .int .u64 c4]] w fun e w' => e = .returned (.bool true) ∧ Below w.heap.size w w' := by
  have hlen : len ≤ 9223372036854775807 := by unfold maxLen at hcm; omega
  have HE := Lib.hid r1
  have HE2 := Lib.hid r2
  have HX := Lib.hid r4
  clear r1 r2 r4
  have hb0 : Below w.heap.size w (w.alloc (.cells #[.int .i64 c0, .int .i64 c1, .int .i64 c2, .int .i64 c3, .int .u64 c4] 44)) := (Below.refl _ w).alloc (Nat.le_refl _) _
  have hs0 : (w.alloc (.cells #[.int .i64 c0, .int .i64 c1, .int .i64 c2, .int .i64 c3, .int .u64 c4] 44)).heap.size = w.heap.size + 1 := World.size_alloc _ _
  have hx0 : ∀ i v, #[Value.int .i64 c0, .int .i64 c1, .int .i64 c2, .int .i64 c3, .int .u64 c4][i]? = some v → (w.alloc (.cells #[.int .i64 c0, .int .i64 c1, .int .i64 c2, .int .i64 c3, .int .u64 c4] 44)).cell? ⟨w.heap.size, i, none⟩ = some v := by
    intro i v h
    simp only [World.cell?, Deep.blk_alloc_new]
    exact h
  go_enter Try.func6, Try.ntmps6
  go_upto_region 1 with fail
  generalize w.alloc (.cells #[.int .i64 c0, .int .i64 c1, .int .i64 c2, .int .i64 c3, .int .u64 c4] 44) = w0 at hb0 hs0 hx0 ⊢
  have hq0 : Boxed w0 w.heap.size c0 c1 c2 c3 c4 := ⟨by omega, hx0 0 _ rfl, hx0 1 _ rfl, hx0 2 _ rfl, hx0 3 _ rfl, hx0 4 _ rfl⟩
  clear hx0
  have hBT : w.heap.size < w0.heap.size := by omega
  go_wp2_with fail
  refine (new_any 16 w0 (by omega) (by omega)).mono ?_
  rintro e w1 ⟨rfl, hb1, hm1, hs1⟩
  have HQ1 := Lib.hid (hq0.below hb1 hBT)
  have HB1 := Lib.hid (belowT hb0 (Nat.le_of_lt hBT) hb1)
  have hTT : w0.heap.size < w1.heap.size := by omega
  clear hq0 hb0 hb1 hs0 hs1
  generalize w0.heap.size = T at *
  go_wp2_with fail
  refine (rnew_any 16 w1 (by omega) (by omega)).mono ?_
  rintro e w2 ⟨rfl, hb2, hm2, hs2⟩
  have hg1 := (hm1.lt).1
  obtain ⟨n, hn, hn2⟩ : ∃ n, 16 * 64 = n ∧ n = 1024 := ⟨_, rfl, rfl⟩
  have hc : Cp w2 (T + 1) T (w1.heap.size + 1) w1.heap.size n (fun _ => 0) := ⟨hn ▸ hm1.below hb2, by rw [← hn, show 16 * 64 / 8 = 16 * 8 from rfl]; exact hm2, by omega, by omega, by omega⟩
  have HN := Lib.hid hn2
  clear hn hn2
  have HC2 := Lib.hid hc
  have HQ2 := Lib.hid (HQ1.out.below hb2 (by omega))
  have HB2 := Lib.hid (belowT HB1.out (by omega) hb2)
  clear hc hb2 hm2 hs2 hg1 hm1 HQ1 HB1
  generalize w1.heap.size = T2 at *
  obtain ⟨G2, hG2⟩ : ∃ G, G = T2 + 1 := ⟨_, rfl⟩
  rw [← hG2] at HC2 ⊢
  clear hG2
  go_wp2_with fail
  refine (awake_any _).mono ?_
  rintro e w3 ⟨rfl, hb3⟩
  have HC3 := Lib.hid (HC2.out.below hb3)
  have HQ3 := Lib.hid (HQ2.out.below hb3 HQ2.out.1)
  have HB3 := Lib.hid (belowT HB2.out (Nat.le_of_lt HQ2.out.1) hb3)
  have HA := Lib.hid hA
  clear hb3 hA HC2 HQ2 HB2
  go_wp2_with fail
  go_loopw [9] (fun s wr => ∃ i f, i ≤ len ∧ s = .int .i64 (i : Nat) ∧ RowKit.Hid (Cp wr (T + 1) T G2 T2 n f ∧ Below w.heap.size w wr ∧ Boxed wr w.heap.size c0 c1 c2 c3 c4)) (fun s _ => len - (intOf s).toNat)
  case atStart => exact ⟨0, _, by omega, rfl, Lib.hid ⟨HC3.out, HB3.out, HQ3.out⟩⟩
  case round =>
    obtain ⟨i, f, hi, rfl, HM⟩ := hrel
    by_cases hlt : i < len ∧ i < 60
    · obtain ⟨hlt, h60⟩ := hlt
      obtain ⟨lb, lo, rfl, e0, e1, e2, e3, e4, r1, r2, r4⟩ := (HA.out.below HM.out.2.1) i hlt
      go_wp2_with fail
      refine (do_any (T + 1) T G2 T2 n f (z i 0) (z i 1) (z i 2) (z i 3) (z i 4) wr HM.out.1 r1 r2 r4).mono ?_
      rintro e w5 ⟨rfl, ⟨f', hc5⟩, hb5⟩
      have hsz := HM.out.2.2.1
      have hlt1 := HM.out.1.1.lt.2
      have HM5 := Lib.hid (And.intro hc5 (And.intro (HM.out.2.1.trans (hb5 w.heap.size (Nat.le_of_lt hBT) (by omega) (Nat.le_of_lt hsz))) (HM.out.2.2.below (hb5 T (Nat.le_refl _) (Nat.le_of_lt hTT) (Nat.le_of_lt hlt1)) hBT)))
      clear hc5 hb5 HM e0 e1 e2 e3 e4 r1 r2 r4
      go_wp2_with fail
      exact ⟨⟨i + 1, f', by omega, rfl, HM5⟩, by simp [intOf]; omega⟩
    · obtain ⟨i0, hi0, hz0, hz1, hz2⟩ := info_parts (show (Try.prog.info? 22).map (fun i => (i.zero, i.size, i.bytes)) = some (some (.int .u64 0), 1, 8) by kernel_rfl)
      have hbA : Below wr.heap.size wr (wr.alloc (.cells #[] 22 (0, 0))) := (Below.refl _ wr).alloc (Nat.le_refl _) _
      have HAA := Lib.hid (HM.out.1.2.1.below hbA)
      have hcell := cell_of_one HAA.out.1
      obtain ⟨N, hNN⟩ : ∃ N, n / 8 = N := ⟨_, rfl⟩
      rw [hNN] at hcell
      have HNN := Lib.hid hNN
      clear hNN
      have HBA := Lib.hid hbA
      clear hbA
      have HA2 : RowKit.Hid (RMem (wr.alloc (.cells #[] 22 (0, 0))) G2 T2 N (wv f)) := Lib.hid (HNN.out ▸ HAA.out)
      have hN1 : 64 ≤ N := HA2.out.2.2.2.1
      have hN2 : N ≤ 8192 := HA2.out.2.2.2.2.1
      by_cases hil : i < len
      · have h6 : decide ((i : Int) < 60) = false := decide_eq_false (by omega)
        have h5 : decide ((i : Int) < (len : Int)) = true := decide_eq_true (by omega)
        go_wp2_with (at_builtin; refine wpList_append_grows _ rfl (.tmp 56) (.tmp 60) 45 rfl 22 i0 (.int .u64 0) 1 8 Try.underlying45 hi0 hz0 hz1 hz2 rfl (by decide) (some ⟨wr.heap.size, 0, none⟩) 0 0 [] rfl (fun h => by cases h) rfl (fun _ _ j u hj => by simp at hj) ⟨T2, 0, none⟩ N N (vs (wv f) N) rfl (by rw [vs_length, Nat.mul_one]) (vs_cells HA2.out) (vs_one (wv f) N) (by omega) (by unfold maxLen; omega) (by omega) ?_; intro v' w7 hown hgr)
        have hb7 : Below wr.heap.size wr w7 := HBA.out.grown hgr (by rw [World.size_alloc]; exact Nat.le_succ _) (fun q hq => by cases hq)
        have hc7 := HM.out.1.below hb7
        have hq7 := HM.out.2.2.below hb7 HM.out.2.2.1
        have hB7 := belowT HM.out.2.1 (Nat.le_of_lt HM.out.2.2.1) hb7
        have hTlt := HM.out.1.1.lt.2
        have hown' := hown
        obtain ⟨q1, q2⟩ := hown
        rcases q2 with ⟨e1, e2⟩ | ⟨b3, cap3, cur, rfl, q3, q4, q5, q6, q7, q8⟩
        · exfalso; omega
        have hcells : ∀ j, j < N → w7.cell? ⟨b3, j, none⟩ = some (.int .u64 (wv f j)) := fun j hj => by
          have := (hown'.cellAt j (by omega)).trans (vs_get (wv f) N j hj)
          exact this
        have hne : b3 ≠ T := by rw [World.size_alloc] at q3; omega
        have hb3l : b3 < w7.heap.size := World.block_lt_of_cell? w7 _ (hcells 0 (by omega))
        have hcm3 : N ≤ cap3 := by omega
        rw [Nat.zero_add]
        obtain ⟨d, d0, d1, d2, d3, d4⟩ := hq7
        clear hown' q1 q3 q4 q5 q6 q7 q8 hgr hb7 HA HC3 HQ3 HB3 HM HAA HBA HA2 hcell
        have H7 := Lib.hid (And.intro hc7 (And.intro hB7 (And.intro hcells hb3l)))
        clear hc7 hB7 hcells hb3l
        go_quiet (fail)
        have H8 : RowKit.Hid (Cp (w7.drewN nq) (T + 1) T G2 T2 n f ∧ Below w.heap.size w (w7.drewN nq) ∧ (∀ (j : Nat), j < N → (w7.drewN nq).cell? ⟨b3, j, none⟩ = some (.int .u64 (wv f j))) ∧ b3 < (w7.drewN nq).heap.size) := Lib.hid ⟨H7.out.1.drewN nq, below_drewN H7.out.2.1 nq, H7.out.2.2⟩
        replace d0 : (w7.drewN nq).cell? ⟨w.heap.size, 0, none⟩ = some (.int .i64 c0) := d0
        replace d1 : (w7.drewN nq).cell? ⟨w.heap.size, 1, none⟩ = some (.int .i64 c1) := d1
        replace d2 : (w7.drewN nq).cell? ⟨w.heap.size, 2, none⟩ = some (.int .i64 c2) := d2
        replace d3 : (w7.drewN nq).cell? ⟨w.heap.size, 3, none⟩ = some (.int .i64 c3) := d3
        replace d4 : (w7.drewN nq).cell? ⟨w.heap.size, 4, none⟩ = some (.int .u64 c4) := d4
        clear H7 d
        generalize w7.drewN nq = w8 at *
        have hwl : w.heap.size < w8.heap.size := World.block_lt_of_cell? w8 _ d0
        by_cases k0 : c0 = 0 ∨ c0 = 1
        · rcases k0 with rfl | rfl
          · skip
            go_wp2_with fail
            refine (store_step (T + 1) T n f c1 c4 w8 H8.out.1.1 HX.out).mono ?_
            rintro e w9 ⟨rfl, ho9, hm9⟩
            have p1 := (World.cell?_of_block (a := ⟨w.heap.size, 1, none⟩) (ho9.2.2.2.2 w.heap.size hwl (by omega))).trans d1
            go_wp2_with fail
            clear p1
            have HP : RowKit.Hid (∀ k : Nat, k < N → wv (sf n f c1 c4) k ≠ wv f k → wrg n c1 8 = 0 ∧ 0 ≤ wrap64 (c1.tdiv 64) ∧ wrap64 (c1.tdiv 64) ≤ (k : Int) / 8 ∧ (k : Int) / 8 - wrap64 (c1.tdiv 64) < 1) := Lib.hid fun k hk hd => by
              obtain ⟨h1, h2⟩ := sf_diff hd
              have h3 : c1.tdiv 64 = (k : Int) / 8 := by rw [Int.tdiv_eq_ediv_of_nonneg (by omega)]; omega
              have h4 : wrap64 (c1.tdiv 64) = (k : Int) / 8 := by rw [h3]; unfold wrap64; omega
              rw [h4]
              exact ⟨h1, by omega, by omega, by omega⟩
            generalize (sf n f c1 c4) = f1 at hm9 HP
            have H9 : RowKit.Hid (Mem w9 (T + 1) T n f1 ∧ Below w.heap.size w w9 ∧ ∀ (j : Nat), j < N → w9.cell? ⟨b3, j, none⟩ = some (.int .u64 (wv f j))) := Lib.hid ⟨hm9, H8.out.2.1.trans (ho9.below (Nat.le_of_lt hBT) (Nat.le_of_lt hwl)), fun j hj => (World.cell?_of_block (a := ⟨b3, j, none⟩) (ho9.2.2.2.2 b3 H8.out.2.2.2 hne)).trans (H8.out.2.2.1 j hj)⟩
            have hn8 : N * 8 = n := by have := HNN.out; have := HN.out; omega
            clear hm9 ho9 H8 d0 d1 d2 d3 d4
            generalize wrg n c1 8 = er at HP ⊢
            generalize wrap64 (c1.tdiv 64) = fr at HP ⊢
            go_loopw [14] (fun s wq => wq = w9 ∧ ∃ k : Nat, k ≤ N ∧ s = .int .i64 k) (fun s _ => N - (intOf s).toNat)
            case atStart => exact ⟨rfl, 0, by omega, rfl⟩
            case round =>
              obtain ⟨rfl, k, hk, rfl⟩ := hrel
              by_cases hkn : k < N
              · have hw8 : IntKind.i64.wrap (8 * (k : Int)) = 8 * (k : Int) := by rw [IntKind.wrap_i64]; omega
                have hcl := H9.out.2.2 k hkn
                have hv : lv n f1 (8 * (k : Int)) = wv f1 k := by
                  unfold lv wv
                  rw [if_pos (wrg_ok (by omega) (by omega) (by omega)), show (8 * (k : Int)).toNat = 8 * k from by omega]
                have HV := Lib.hid hv
                have hp := HP.out k hkn
                clear hv
                generalize wv f1 k = p at HV hp
                generalize wv f k = q at hcl hp
                have HPP := Lib.hid hp
                clear hp
                go_wp2_with fail
                refine (load_step (T + 1) T n f1 (8 * (k : Int)) _ H9.out.1).mono ?_
                rintro e _ ⟨rfl, rfl⟩
                rw [HV.out]
                by_cases hpq : p = q
                · have z1 : (p != q) = false := by rw [hpq]; exact bne_self_eq_false _
                  go_wp2_with fail
                  exact ⟨⟨trivial, k + 1, by omega, rfl⟩, by simp [intOf]; omega⟩
                · have z1 : (p != q) = true := bne_iff_ne.2 hpq
                  obtain ⟨rfl, f0, f1, f2⟩ := HPP.out hpq
                  have y1 : decide (((k : Nat) : Int) / 8 < fr) = false := decide_eq_false (by omega)
                  have y2 : IntKind.i64.wrap (((k : Nat) : Int) / 8 - fr) = ((k : Nat) : Int) / 8 - fr := by rw [IntKind.wrap_i64]; omega
                  have y3 : decide (1 ≤ ((k : Nat) : Int) / 8 - fr) = false := decide_eq_false (by omega)
                  go_wp2_with fail
                  exact ⟨⟨trivial, k + 1, by omega, rfl⟩, by simp [intOf]; omega⟩
              · go_wp2_with fail
                exact bodyPost_ret (results_tmp rfl _ _ _) rfl ⟨rfl, H9.out.2.1⟩
          · skip
            go_wp2_with fail
            refine (store_step (T + 1) T n f c1 c4 w8 H8.out.1.1 HX.out).mono ?_
            rintro e w9 ⟨rfl, ho9, hm9⟩
            have p1 := (World.cell?_of_block (a := ⟨w.heap.size, 1, none⟩) (ho9.2.2.2.2 w.heap.size hwl (by omega))).trans d1
            go_wp2_with fail
            clear p1
            have HP : RowKit.Hid (∀ k : Nat, k < N → wv (sf n f c1 c4) k ≠ wv f k → wrg n c1 8 = 0 ∧ 0 ≤ wrap64 (c1.tdiv 64) ∧ wrap64 (c1.tdiv 64) ≤ (k : Int) / 8 ∧ (k : Int) / 8 - wrap64 (c1.tdiv 64) < 1) := Lib.hid fun k hk hd => by
              obtain ⟨h1, h2⟩ := sf_diff hd
              have h3 : c1.tdiv 64 = (k : Int) / 8 := by rw [Int.tdiv_eq_ediv_of_nonneg (by omega)]; omega
              have h4 : wrap64 (c1.tdiv 64) = (k : Int) / 8 := by rw [h3]; unfold wrap64; omega
              rw [h4]
              exact ⟨h1, by omega, by omega, by omega⟩
            generalize (sf n f c1 c4) = f1 at hm9 HP
            have H9 : RowKit.Hid (Mem w9 (T + 1) T n f1 ∧ Below w.heap.size w w9 ∧ ∀ (j : Nat), j < N → w9.cell? ⟨b3, j, none⟩ = some (.int .u64 (wv f j))) := Lib.hid ⟨hm9, H8.out.2.1.trans (ho9.below (Nat.le_of_lt hBT) (Nat.le_of_lt hwl)), fun j hj => (World.cell?_of_block (a := ⟨b3, j, none⟩) (ho9.2.2.2.2 b3 H8.out.2.2.2 hne)).trans (H8.out.2.2.1 j hj)⟩
            have hn8 : N * 8 = n := by have := HNN.out; have := HN.out; omega
            clear hm9 ho9 H8 d0 d1 d2 d3 d4
            generalize wrg n c1 8 = er at HP ⊢
            generalize wrap64 (c1.tdiv 64) = fr at HP ⊢
            go_loopw [14] (fun s wq => wq = w9 ∧ ∃ k : Nat, k ≤ N ∧ s = .int .i64 k) (fun s _ => N - (intOf s).toNat)
            case atStart => exact ⟨rfl, 0, by omega, rfl⟩
            case round =>
              obtain ⟨rfl, k, hk, rfl⟩ := hrel
              by_cases hkn : k < N
              · have hw8 : IntKind.i64.wrap (8 * (k : Int)) = 8 * (k : Int) := by rw [IntKind.wrap_i64]; omega
                have hcl := H9.out.2.2 k hkn
                have hv : lv n f1 (8 * (k : Int)) = wv f1 k := by
                  unfold lv wv
                  rw [if_pos (wrg_ok (by omega) (by omega) (by omega)), show (8 * (k : Int)).toNat = 8 * k from by omega]
                have HV := Lib.hid hv
                have hp := HP.out k hkn
                clear hv
                generalize wv f1 k = p at HV hp
                generalize wv f k = q at hcl hp
                have HPP := Lib.hid hp
                clear hp
                go_wp2_with fail
                refine (load_step (T + 1) T n f1 (8 * (k : Int)) _ H9.out.1).mono ?_
                rintro e _ ⟨rfl, rfl⟩
                rw [HV.out]
                by_cases hpq : p = q
                · have z1 : (p != q) = false := by rw [hpq]; exact bne_self_eq_false _
                  go_wp2_with fail
                  exact ⟨⟨trivial, k + 1, by omega, rfl⟩, by simp [intOf]; omega⟩
                · have z1 : (p != q) = true := bne_iff_ne.2 hpq
                  obtain ⟨rfl, f0, f1, f2⟩ := HPP.out hpq
                  have y1 : decide (((k : Nat) : Int) / 8 < fr) = false := decide_eq_false (by omega)
                  have y2 : IntKind.i64.wrap (((k : Nat) : Int) / 8 - fr) = ((k : Nat) : Int) / 8 - fr := by rw [IntKind.wrap_i64]; omega
                  have y3 : decide (1 ≤ ((k : Nat) : Int) / 8 - fr) = false := decide_eq_false (by omega)
                  go_wp2_with fail
                  exact ⟨⟨trivial, k + 1, by omega, rfl⟩, by simp [intOf]; omega⟩
              · go_wp2_with fail
                exact bodyPost_ret (results_tmp rfl _ _ _) rfl ⟨rfl, H9.out.2.1⟩
        · have z0 : (c0 == 0) = false := by rw [beq_eq_false_iff_ne]; omega
          have z1 : (c0 == 1) = false := by rw [beq_eq_false_iff_ne]; omega
          by_cases k2 : c0 = 2
          · subst k2
            go_wp2_with fail
            refine (zero_step (T + 1) T n f c1 c3 w8 H8.out.1.1 HE.out).mono ?_
            rintro e w9 ⟨rfl, ho9, hm9⟩
            go_wp2_with fail
            have HP : RowKit.Hid (∀ k : Nat, k < N → wv (zf n f c1 c3) k ≠ wv f k → frm n c1 c3 = 0 ∧ 0 ≤ c1 ∧ c1 ≤ (k : Int) / 8 ∧ (k : Int) / 8 - c1 < c3) := Lib.hid fun k hk hd => zf_diff hd
            generalize (zf n f c1 c3) = f1 at hm9 HP
            have H9 : RowKit.Hid (Mem w9 (T + 1) T n f1 ∧ Below w.heap.size w w9 ∧ ∀ (j : Nat), j < N → w9.cell? ⟨b3, j, none⟩ = some (.int .u64 (wv f j))) := Lib.hid ⟨hm9, H8.out.2.1.trans (ho9.below (Nat.le_of_lt hBT) (Nat.le_of_lt hwl)), fun j hj => (World.cell?_of_block (a := ⟨b3, j, none⟩) (ho9.2.2.2.2 b3 H8.out.2.2.2 hne)).trans (H8.out.2.2.1 j hj)⟩
            have hn8 : N * 8 = n := by have := HNN.out; have := HN.out; omega
            clear hm9 ho9 H8 d0 d1 d2 d3 d4
            generalize frm n c1 c3 = er at HP ⊢
            go_loopw [14] (fun s wq => wq = w9 ∧ ∃ k : Nat, k ≤ N ∧ s = .int .i64 k) (fun s _ => N - (intOf s).toNat)
            case atStart => exact ⟨rfl, 0, by omega, rfl⟩
            case round =>
              obtain ⟨rfl, k, hk, rfl⟩ := hrel
              by_cases hkn : k < N
              · have hw8 : IntKind.i64.wrap (8 * (k : Int)) = 8 * (k : Int) := by rw [IntKind.wrap_i64]; omega
                have hcl := H9.out.2.2 k hkn
                have hv : lv n f1 (8 * (k : Int)) = wv f1 k := by
                  unfold lv wv
                  rw [if_pos (wrg_ok (by omega) (by omega) (by omega)), show (8 * (k : Int)).toNat = 8 * k from by omega]
                have HV := Lib.hid hv
                have hp := HP.out k hkn
                clear hv
                generalize wv f1 k = p at HV hp
                generalize wv f k = q at hcl hp
                have HPP := Lib.hid hp
                clear hp
                go_wp2_with fail
                refine (load_step (T + 1) T n f1 (8 * (k : Int)) _ H9.out.1).mono ?_
                rintro e _ ⟨rfl, rfl⟩
                rw [HV.out]
                by_cases hpq : p = q
                · have z1 : (p != q) = false := by rw [hpq]; exact bne_self_eq_false _
                  go_wp2_with fail
                  exact ⟨⟨trivial, k + 1, by omega, rfl⟩, by simp [intOf]; omega⟩
                · have z1 : (p != q) = true := bne_iff_ne.2 hpq
                  obtain ⟨rfl, f0, f1, f2⟩ := HPP.out hpq
                  have y1 : decide (((k : Nat) : Int) / 8 < c1) = false := decide_eq_false (by omega)
                  have y2 : IntKind.i64.wrap (((k : Nat) : Int) / 8 - c1) = ((k : Nat) : Int) / 8 - c1 := by rw [IntKind.wrap_i64]; omega
                  have y3 : decide (c3 ≤ ((k : Nat) : Int) / 8 - c1) = false := decide_eq_false (by omega)
                  go_wp2_with fail
                  exact ⟨⟨trivial, k + 1, by omega, rfl⟩, by simp [intOf]; omega⟩
              · go_wp2_with fail
                exact bodyPost_ret (results_tmp rfl _ _ _) rfl ⟨rfl, H9.out.2.1⟩
          · have z2 : (c0 == 2) = false := by rw [beq_eq_false_iff_ne]; exact k2
            go_wp2_with fail
            refine (copy_step (T + 1) T n f c1 c2 c3 w8 H8.out.1.1 HE.out HE2.out).mono ?_
            rintro e w9 ⟨rfl, ho9, hm9⟩
            go_wp2_with fail
            have HP : RowKit.Hid (∀ k : Nat, k < N → wv (cf n f c1 c2 c3) k ≠ wv f k → cpe n c1 c2 c3 = 0 ∧ 0 ≤ c1 ∧ c1 ≤ (k : Int) / 8 ∧ (k : Int) / 8 - c1 < c3) := Lib.hid fun k hk hd => cf_diff hd
            generalize (cf n f c1 c2 c3) = f1 at hm9 HP
            have H9 : RowKit.Hid (Mem w9 (T + 1) T n f1 ∧ Below w.heap.size w w9 ∧ ∀ (j : Nat), j < N → w9.cell? ⟨b3, j, none⟩ = some (.int .u64 (wv f j))) := Lib.hid ⟨hm9, H8.out.2.1.trans (ho9.below (Nat.le_of_lt hBT) (Nat.le_of_lt hwl)), fun j hj => (World.cell?_of_block (a := ⟨b3, j, none⟩) (ho9.2.2.2.2 b3 H8.out.2.2.2 hne)).trans (H8.out.2.2.1 j hj)⟩
            have hn8 : N * 8 = n := by have := HNN.out; have := HN.out; omega
            clear hm9 ho9 H8 d0 d1 d2 d3 d4
            generalize cpe n c1 c2 c3 = er at HP ⊢
            go_loopw [14] (fun s wq => wq = w9 ∧ ∃ k : Nat, k ≤ N ∧ s = .int .i64 k) (fun s _ => N - (intOf s).toNat)
            case atStart => exact ⟨rfl, 0, by omega, rfl⟩
            case round =>
              obtain ⟨rfl, k, hk, rfl⟩ := hrel
              by_cases hkn : k < N
              · have hw8 : IntKind.i64.wrap (8 * (k : Int)) = 8 * (k : Int) := by rw [IntKind.wrap_i64]; omega
                have hcl := H9.out.2.2 k hkn
                have hv : lv n f1 (8 * (k : Int)) = wv f1 k := by
                  unfold lv wv
                  rw [if_pos (wrg_ok (by omega) (by omega) (by omega)), show (8 * (k : Int)).toNat = 8 * k from by omega]
                have HV := Lib.hid hv
                have hp := HP.out k hkn
                clear hv
                generalize wv f1 k = p at HV hp
                generalize wv f k = q at hcl hp
                have HPP := Lib.hid hp
                clear hp
                go_wp2_with fail
                refine (load_step (T + 1) T n f1 (8 * (k : Int)) _ H9.out.1).mono ?_
                rintro e _ ⟨rfl, rfl⟩
                rw [HV.out]
                by_cases hpq : p = q
                · have z1 : (p != q) = false := by rw [hpq]; exact bne_self_eq_false _
                  go_wp2_with fail
                  exact ⟨⟨trivial, k + 1, by omega, rfl⟩, by simp [intOf]; omega⟩
                · have z1 : (p != q) = true := bne_iff_ne.2 hpq
                  obtain ⟨rfl, f0, f1, f2⟩ := HPP.out hpq
                  have y1 : decide (((k : Nat) : Int) / 8 < c1) = false := decide_eq_false (by omega)
                  have y2 : IntKind.i64.wrap (((k : Nat) : Int) / 8 - c1) = ((k : Nat) : Int) / 8 - c1 := by rw [IntKind.wrap_i64]; omega
                  have y3 : decide (c3 ≤ ((k : Nat) : Int) / 8 - c1) = false := decide_eq_false (by omega)
                  go_wp2_with fail
                  exact ⟨⟨trivial, k + 1, by omega, rfl⟩, by simp [intOf]; omega⟩
              · go_wp2_with fail
                exact bodyPost_ret (results_tmp rfl _ _ _) rfl ⟨rfl, H9.out.2.1⟩
      · have h5 : decide ((i : Int) < (len : Int)) = false := decide_eq_false (by omega)
        go_wp2_with (at_builtin; refine wpList_append_grows _ rfl (.tmp 56) (.tmp 60) 45 rfl 22 i0 (.int .u64 0) 1 8 Try.underlying45 hi0 hz0 hz1 hz2 rfl (by decide) (some ⟨wr.heap.size, 0, none⟩) 0 0 [] rfl (fun h => by cases h) rfl (fun _ _ j u hj => by simp at hj) ⟨T2, 0, none⟩ N N (vs (wv f) N) rfl (by rw [vs_length, Nat.mul_one]) (vs_cells HA2.out) (vs_one (wv f) N) (by omega) (by unfold maxLen; omega) (by omega) ?_; intro v' w7 hown hgr)
        have hb7 : Below wr.heap.size wr w7 := HBA.out.grown hgr (by rw [World.size_alloc]; exact Nat.le_succ _) (fun q hq => by cases hq)
        have hc7 := HM.out.1.below hb7
        have hq7 := HM.out.2.2.below hb7 HM.out.2.2.1
        have hB7 := belowT HM.out.2.1 (Nat.le_of_lt HM.out.2.2.1) hb7
        have hTlt := HM.out.1.1.lt.2
        have hown' := hown
        obtain ⟨q1, q2⟩ := hown
        rcases q2 with ⟨e1, e2⟩ | ⟨b3, cap3, cur, rfl, q3, q4, q5, q6, q7, q8⟩
        · exfalso; omega
        have hcells : ∀ j, j < N → w7.cell? ⟨b3, j, none⟩ = some (.int .u64 (wv f j)) := fun j hj => by
          have := (hown'.cellAt j (by omega)).trans (vs_get (wv f) N j hj)
          exact this
        have hne : b3 ≠ T := by rw [World.size_alloc] at q3; omega
        have hb3l : b3 < w7.heap.size := World.block_lt_of_cell? w7 _ (hcells 0 (by omega))
        have hcm3 : N ≤ cap3 := by omega
        rw [Nat.zero_add]
        obtain ⟨d, d0, d1, d2, d3, d4⟩ := hq7
        clear hown' q1 q3 q4 q5 q6 q7 q8 hgr hb7 HA HC3 HQ3 HB3 HM HAA HBA HA2 hcell
        have H7 := Lib.hid (And.intro hc7 (And.intro hB7 (And.intro hcells hb3l)))
        clear hc7 hB7 hcells hb3l
        go_quiet (fail)
        have H8 : RowKit.Hid (Cp (w7.drewN nq) (T + 1) T G2 T2 n f ∧ Below w.heap.size w (w7.drewN nq) ∧ (∀ (j : Nat), j < N → (w7.drewN nq).cell? ⟨b3, j, none⟩ = some (.int .u64 (wv f j))) ∧ b3 < (w7.drewN nq).heap.size) := Lib.hid ⟨H7.out.1.drewN nq, below_drewN H7.out.2.1 nq, H7.out.2.2⟩
        replace d0 : (w7.drewN nq).cell? ⟨w.heap.size, 0, none⟩ = some (.int .i64 c0) := d0
        replace d1 : (w7.drewN nq).cell? ⟨w.heap.size, 1, none⟩ = some (.int .i64 c1) := d1
        replace d2 : (w7.drewN nq).cell? ⟨w.heap.size, 2, none⟩ = some (.int .i64 c2) := d2
        replace d3 : (w7.drewN nq).cell? ⟨w.heap.size, 3, none⟩ = some (.int .i64 c3) := d3
        replace d4 : (w7.drewN nq).cell? ⟨w.heap.size, 4, none⟩ = some (.int .u64 c4) := d4
        clear H7 d
        generalize w7.drewN nq = w8 at *
        have hwl : w.heap.size < w8.heap.size := World.block_lt_of_cell? w8 _ d0
        by_cases k0 : c0 = 0 ∨ c0 = 1
        · rcases k0 with rfl | rfl
          · skip
            go_wp2_with fail
            refine (store_step (T + 1) T n f c1 c4 w8 H8.out.1.1 HX.out).mono ?_
            rintro e w9 ⟨rfl, ho9, hm9⟩
            have p1 := (World.cell?_of_block (a := ⟨w.heap.size, 1, none⟩) (ho9.2.2.2.2 w.heap.size hwl (by omega))).trans d1
            go_wp2_with fail
            clear p1
            have HP : RowKit.Hid (∀ k : Nat, k < N → wv (sf n f c1 c4) k ≠ wv f k → wrg n c1 8 = 0 ∧ 0 ≤ wrap64 (c1.tdiv 64) ∧ wrap64 (c1.tdiv 64) ≤ (k : Int) / 8 ∧ (k : Int) / 8 - wrap64 (c1.tdiv 64) < 1) := Lib.hid fun k hk hd => by
              obtain ⟨h1, h2⟩ := sf_diff hd
              have h3 : c1.tdiv 64 = (k : Int) / 8 := by rw [Int.tdiv_eq_ediv_of_nonneg (by omega)]; omega
              have h4 : wrap64 (c1.tdiv 64) = (k : Int) / 8 := by rw [h3]; unfold wrap64; omega
              rw [h4]
              exact ⟨h1, by omega, by omega, by omega⟩
            generalize (sf n f c1 c4) = f1 at hm9 HP
            have H9 : RowKit.Hid (Mem w9 (T + 1) T n f1 ∧ Below w.heap.size w w9 ∧ ∀ (j : Nat), j < N → w9.cell? ⟨b3, j, none⟩ = some (.int .u64 (wv f j))) := Lib.hid ⟨hm9, H8.out.2.1.trans (ho9.below (Nat.le_of_lt hBT) (Nat.le_of_lt hwl)), fun j hj => (World.cell?_of_block (a := ⟨b3, j, none⟩) (ho9.2.2.2.2 b3 H8.out.2.2.2 hne)).trans (H8.out.2.2.1 j hj)⟩
            have hn8 : N * 8 = n := by have := HNN.out; have := HN.out; omega
            clear hm9 ho9 H8 d0 d1 d2 d3 d4
            generalize wrg n c1 8 = er at HP ⊢
            generalize wrap64 (c1.tdiv 64) = fr at HP ⊢
            go_loopw [14] (fun s wq => wq = w9 ∧ ∃ k : Nat, k ≤ N ∧ s = .int .i64 k) (fun s _ => N - (intOf s).toNat)
            case atStart => exact ⟨rfl, 0, by omega, rfl⟩
            case round =>
              obtain ⟨rfl, k, hk, rfl⟩ := hrel
              by_cases hkn : k < N
              · have hw8 : IntKind.i64.wrap (8 * (k : Int)) = 8 * (k : Int) := by rw [IntKind.wrap_i64]; omega
                have hcl := H9.out.2.2 k hkn
                have hv : lv n f1 (8 * (k : Int)) = wv f1 k := by
                  unfold lv wv
                  rw [if_pos (wrg_ok (by omega) (by omega) (by omega)), show (8 * (k : Int)).toNat = 8 * k from by omega]
                have HV := Lib.hid hv
                have hp := HP.out k hkn
                clear hv
                generalize wv f1 k = p at HV hp
                generalize wv f k = q at hcl hp
                have HPP := Lib.hid hp
                clear hp
                go_wp2_with fail
                refine (load_step (T + 1) T n f1 (8 * (k : Int)) _ H9.out.1).mono ?_
                rintro e _ ⟨rfl, rfl⟩
                rw [HV.out]
                by_cases hpq : p = q
                · have z1 : (p != q) = false := by rw [hpq]; exact bne_self_eq_false _
                  go_wp2_with fail
                  exact ⟨⟨trivial, k + 1, by omega, rfl⟩, by simp [intOf]; omega⟩
                · have z1 : (p != q) = true := bne_iff_ne.2 hpq
                  obtain ⟨rfl, f0, f1, f2⟩ := HPP.out hpq
                  have y1 : decide (((k : Nat) : Int) / 8 < fr) = false := decide_eq_false (by omega)
                  have y2 : IntKind.i64.wrap (((k : Nat) : Int) / 8 - fr) = ((k : Nat) : Int) / 8 - fr := by rw [IntKind.wrap_i64]; omega
                  have y3 : decide (1 ≤ ((k : Nat) : Int) / 8 - fr) = false := decide_eq_false (by omega)
                  go_wp2_with fail
                  exact ⟨⟨trivial, k + 1, by omega, rfl⟩, by simp [intOf]; omega⟩
              · go_wp2_with fail
                exact bodyPost_ret (results_tmp rfl _ _ _) rfl ⟨rfl, H9.out.2.1⟩
          · skip
            go_wp2_with fail
            refine (store_step (T + 1) T n f c1 c4 w8 H8.out.1.1 HX.out).mono ?_
            rintro e w9 ⟨rfl, ho9, hm9⟩
            have p1 := (World.cell?_of_block (a := ⟨w.heap.size, 1, none⟩) (ho9.2.2.2.2 w.heap.size hwl (by omega))).trans d1
            go_wp2_with fail
            clear p1
            have HP : RowKit.Hid (∀ k : Nat, k < N → wv (sf n f c1 c4) k ≠ wv f k → wrg n c1 8 = 0 ∧ 0 ≤ wrap64 (c1.tdiv 64) ∧ wrap64 (c1.tdiv 64) ≤ (k : Int) / 8 ∧ (k : Int) / 8 - wrap64 (c1.tdiv 64) < 1) := Lib.hid fun k hk hd => by
              obtain ⟨h1, h2⟩ := sf_diff hd
              have h3 : c1.tdiv 64 = (k : Int) / 8 := by rw [Int.tdiv_eq_ediv_of_nonneg (by omega)]; omega
              have h4 : wrap64 (c1.tdiv 64) = (k : Int) / 8 := by rw [h3]; unfold wrap64; omega
              rw [h4]
              exact ⟨h1, by omega, by omega, by omega⟩
            generalize (sf n f c1 c4) = f1 at hm9 HP
            have H9 : RowKit.Hid (Mem w9 (T + 1) T n f1 ∧ Below w.heap.size w w9 ∧ ∀ (j : Nat), j < N → w9.cell? ⟨b3, j, none⟩ = some (.int .u64 (wv f j))) := Lib.hid ⟨hm9, H8.out.2.1.trans (ho9.below (Nat.le_of_lt hBT) (Nat.le_of_lt hwl)), fun j hj => (World.cell?_of_block (a := ⟨b3, j, none⟩) (ho9.2.2.2.2 b3 H8.out.2.2.2 hne)).trans (H8.out.2.2.1 j hj)⟩
            have hn8 : N * 8 = n := by have := HNN.out; have := HN.out; omega
            clear hm9 ho9 H8 d0 d1 d2 d3 d4
            generalize wrg n c1 8 = er at HP ⊢
            generalize wrap64 (c1.tdiv 64) = fr at HP ⊢
            go_loopw [14] (fun s wq => wq = w9 ∧ ∃ k : Nat, k ≤ N ∧ s = .int .i64 k) (fun s _ => N - (intOf s).toNat)
            case atStart => exact ⟨rfl, 0, by omega, rfl⟩
            case round =>
              obtain ⟨rfl, k, hk, rfl⟩ := hrel
              by_cases hkn : k < N
              · have hw8 : IntKind.i64.wrap (8 * (k : Int)) = 8 * (k : Int) := by rw [IntKind.wrap_i64]; omega
                have hcl := H9.out.2.2 k hkn
                have hv : lv n f1 (8 * (k : Int)) = wv f1 k := by
                  unfold lv wv
                  rw [if_pos (wrg_ok (by omega) (by omega) (by omega)), show (8 * (k : Int)).toNat = 8 * k from by omega]
                have HV := Lib.hid hv
                have hp := HP.out k hkn
                clear hv
                generalize wv f1 k = p at HV hp
                generalize wv f k = q at hcl hp
                have HPP := Lib.hid hp
                clear hp
                go_wp2_with fail
                refine (load_step (T + 1) T n f1 (8 * (k : Int)) _ H9.out.1).mono ?_
                rintro e _ ⟨rfl, rfl⟩
                rw [HV.out]
                by_cases hpq : p = q
                · have z1 : (p != q) = false := by rw [hpq]; exact bne_self_eq_false _
                  go_wp2_with fail
                  exact ⟨⟨trivial, k + 1, by omega, rfl⟩, by simp [intOf]; omega⟩
                · have z1 : (p != q) = true := bne_iff_ne.2 hpq
                  obtain ⟨rfl, f0, f1, f2⟩ := HPP.out hpq
                  have y1 : decide (((k : Nat) : Int) / 8 < fr) = false := decide_eq_false (by omega)
                  have y2 : IntKind.i64.wrap (((k : Nat) : Int) / 8 - fr) = ((k : Nat) : Int) / 8 - fr := by rw [IntKind.wrap_i64]; omega
                  have y3 : decide (1 ≤ ((k : Nat) : Int) / 8 - fr) = false := decide_eq_false (by omega)
                  go_wp2_with fail
                  exact ⟨⟨trivial, k + 1, by omega, rfl⟩, by simp [intOf]; omega⟩
              · go_wp2_with fail
                exact bodyPost_ret (results_tmp rfl _ _ _) rfl ⟨rfl, H9.out.2.1⟩
        · have z0 : (c0 == 0) = false := by rw [beq_eq_false_iff_ne]; omega
          have z1 : (c0 == 1) = false := by rw [beq_eq_false_iff_ne]; omega
          by_cases k2 : c0 = 2
          · subst k2
            go_wp2_with fail
            refine (zero_step (T + 1) T n f c1 c3 w8 H8.out.1.1 HE.out).mono ?_
            rintro e w9 ⟨rfl, ho9, hm9⟩
            go_wp2_with fail
            have HP : RowKit.Hid (∀ k : Nat, k < N → wv (zf n f c1 c3) k ≠ wv f k → frm n c1 c3 = 0 ∧ 0 ≤ c1 ∧ c1 ≤ (k : Int) / 8 ∧ (k : Int) / 8 - c1 < c3) := Lib.hid fun k hk hd => zf_diff hd
            generalize (zf n f c1 c3) = f1 at hm9 HP
            have H9 : RowKit.Hid (Mem w9 (T + 1) T n f1 ∧ Below w.heap.size w w9 ∧ ∀ (j : Nat), j < N → w9.cell? ⟨b3, j, none⟩ = some (.int .u64 (wv f j))) := Lib.hid ⟨hm9, H8.out.2.1.trans (ho9.below (Nat.le_of_lt hBT) (Nat.le_of_lt hwl)), fun j hj => (World.cell?_of_block (a := ⟨b3, j, none⟩) (ho9.2.2.2.2 b3 H8.out.2.2.2 hne)).trans (H8.out.2.2.1 j hj)⟩
            have hn8 : N * 8 = n := by have := HNN.out; have := HN.out; omega
            clear hm9 ho9 H8 d0 d1 d2 d3 d4
            generalize frm n c1 c3 = er at HP ⊢
            go_loopw [14] (fun s wq => wq = w9 ∧ ∃ k : Nat, k ≤ N ∧ s = .int .i64 k) (fun s _ => N - (intOf s).toNat)
            case atStart => exact ⟨rfl, 0, by omega, rfl⟩
            case round =>
              obtain ⟨rfl, k, hk, rfl⟩ := hrel
              by_cases hkn : k < N
              · have hw8 : IntKind.i64.wrap (8 * (k : Int)) = 8 * (k : Int) := by rw [IntKind.wrap_i64]; omega
                have hcl := H9.out.2.2 k hkn
                have hv : lv n f1 (8 * (k : Int)) = wv f1 k := by
                  unfold lv wv
                  rw [if_pos (wrg_ok (by omega) (by omega) (by omega)), show (8 * (k : Int)).toNat = 8 * k from by omega]
                have HV := Lib.hid hv
                have hp := HP.out k hkn
                clear hv
                generalize wv f1 k = p at HV hp
                generalize wv f k = q at hcl hp
                have HPP := Lib.hid hp
                clear hp
                go_wp2_with fail
                refine (load_step (T + 1) T n f1 (8 * (k : Int)) _ H9.out.1).mono ?_
                rintro e _ ⟨rfl, rfl⟩
                rw [HV.out]
                by_cases hpq : p = q
                · have z1 : (p != q) = false := by rw [hpq]; exact bne_self_eq_false _
                  go_wp2_with fail
                  exact ⟨⟨trivial, k + 1, by omega, rfl⟩, by simp [intOf]; omega⟩
                · have z1 : (p != q) = true := bne_iff_ne.2 hpq
                  obtain ⟨rfl, f0, f1, f2⟩ := HPP.out hpq
                  have y1 : decide (((k : Nat) : Int) / 8 < c1) = false := decide_eq_false (by omega)
                  have y2 : IntKind.i64.wrap (((k : Nat) : Int) / 8 - c1) = ((k : Nat) : Int) / 8 - c1 := by rw [IntKind.wrap_i64]; omega
                  have y3 : decide (c3 ≤ ((k : Nat) : Int) / 8 - c1) = false := decide_eq_false (by omega)
                  go_wp2_with fail
                  exact ⟨⟨trivial, k + 1, by omega, rfl⟩, by simp [intOf]; omega⟩
              · go_wp2_with fail
                exact bodyPost_ret (results_tmp rfl _ _ _) rfl ⟨rfl, H9.out.2.1⟩
          · have z2 : (c0 == 2) = false := by rw [beq_eq_false_iff_ne]; exact k2
            go_wp2_with fail
            refine (copy_step (T + 1) T n f c1 c2 c3 w8 H8.out.1.1 HE.out HE2.out).mono ?_
            rintro e w9 ⟨rfl, ho9, hm9⟩
            go_wp2_with fail
            have HP : RowKit.Hid (∀ k : Nat, k < N → wv (cf n f c1 c2 c3) k ≠ wv f k → cpe n c1 c2 c3 = 0 ∧ 0 ≤ c1 ∧ c1 ≤ (k : Int) / 8 ∧ (k : Int) / 8 - c1 < c3) := Lib.hid fun k hk hd => cf_diff hd
            generalize (cf n f c1 c2 c3) = f1 at hm9 HP
            have H9 : RowKit.Hid (Mem w9 (T + 1) T n f1 ∧ Below w.heap.size w w9 ∧ ∀ (j : Nat), j < N → w9.cell? ⟨b3, j, none⟩ = some (.int .u64 (wv f j))) := Lib.hid ⟨hm9, H8.out.2.1.trans (ho9.below (Nat.le_of_lt hBT) (Nat.le_of_lt hwl)), fun j hj => (World.cell?_of_block (a := ⟨b3, j, none⟩) (ho9.2.2.2.2 b3 H8.out.2.2.2 hne)).trans (H8.out.2.2.1 j hj)⟩
            have hn8 : N * 8 = n := by have := HNN.out; have := HN.out; omega
            clear hm9 ho9 H8 d0 d1 d2 d3 d4
            generalize cpe n c1 c2 c3 = er at HP ⊢
            go_loopw [14] (fun s wq => wq = w9 ∧ ∃ k : Nat, k ≤ N ∧ s = .int .i64 k) (fun s _ => N - (intOf s).toNat)
            case atStart => exact ⟨rfl, 0, by omega, rfl⟩
            case round =>
              obtain ⟨rfl, k, hk, rfl⟩ := hrel
              by_cases hkn : k < N
              · have hw8 : IntKind.i64.wrap (8 * (k : Int)) = 8 * (k : Int) := by rw [IntKind.wrap_i64]; omega
                have hcl := H9.out.2.2 k hkn
                have hv : lv n f1 (8 * (k : Int)) = wv f1 k := by
                  unfold lv wv
                  rw [if_pos (wrg_ok (by omega) (by omega) (by omega)), show (8 * (k : Int)).toNat = 8 * k from by omega]
                have HV := Lib.hid hv
                have hp := HP.out k hkn
                clear hv
                generalize wv f1 k = p at HV hp
                generalize wv f k = q at hcl hp
                have HPP := Lib.hid hp
                clear hp
                go_wp2_with fail
                refine (load_step (T + 1) T n f1 (8 * (k : Int)) _ H9.out.1).mono ?_
                rintro e _ ⟨rfl, rfl⟩
                rw [HV.out]
                by_cases hpq : p = q
                · have z1 : (p != q) = false := by rw [hpq]; exact bne_self_eq_false _
                  go_wp2_with fail
                  exact ⟨⟨trivial, k + 1, by omega, rfl⟩, by simp [intOf]; omega⟩
                · have z1 : (p != q) = true := bne_iff_ne.2 hpq
                  obtain ⟨rfl, f0, f1, f2⟩ := HPP.out hpq
                  have y1 : decide (((k : Nat) : Int) / 8 < c1) = false := decide_eq_false (by omega)
                  have y2 : IntKind.i64.wrap (((k : Nat) : Int) / 8 - c1) = ((k : Nat) : Int) / 8 - c1 := by rw [IntKind.wrap_i64]; omega
                  have y3 : decide (c3 ≤ ((k : Nat) : Int) / 8 - c1) = false := decide_eq_false (by omega)
                  go_wp2_with fail
                  exact ⟨⟨trivial, k + 1, by omega, rfl⟩, by simp [intOf]; omega⟩
              · go_wp2_with fail
                exact bodyPost_ret (results_tmp rfl _ _ _) rfl ⟨rfl, H9.out.2.1⟩

end Go.Proofs.Ytmjkcmpanoepgaa
