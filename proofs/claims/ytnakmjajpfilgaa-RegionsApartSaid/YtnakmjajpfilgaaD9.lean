/- Parts of the proofs of layer 20 (regions): contracts of its functions, and the laws' walks. -/
import Derived.Test.YtnakmjajpfilgaaProg
import Derived.WalkKit
import Derived.WalkSpells
import Derived.WalkLawsBesides
import Derived.BigQuiet
import Derived.Deep.QuietTactic
import Derived.Lib.Hide
import Derived.Deep.RegionHeld3
import Derived.Deep.DeepCutAuto
import Derived.KernelRfl
import Derived.Deep.OwnRows
import Derived.Laws.CopyOwn
import Derived.Laws.CopyRow
import Derived.StillTailTactics
import Derived.Deep.RegionLaw
import Derived.Test.YtnakmjajpfilgaaD8
namespace Go.Proofs.Ytnakmjajpfilgaa
open Go.RowKit
set_option linter.unusedVariables false
set_option linter.unusedSimpArgs false

/-- What stays under way, up to the order. -/
def Rest (q : List R2) (a b : Int) (q' : List R2) : Prop := if done q a b = 0 then (⟨a, b⟩ :: q').Perm q else q' = q
def inI (a b : Int) (i : Nat) : Bool := decide (a ≤ (i : Int)) && decide ((i : Int) < b)
def addf (f : Nat → Bool) (q : List R2) (a b : Int) (add : Bool) (i : Nat) : Bool := f i || (add && decide (done q a b = 0) && inI a b i)
def rdonen (f : Nat → Bool) (q : List R2) (a b : Int) (add : Bool) : Int := if add = true ∧ done q a b = 0 then b - a - rcnt f a b else 0
theorem take_drop_perm : ∀ (q : List R2) (i : Nat) (x : R2), q[i]? = some x → (x :: (q.take i ++ q.drop (i + 1))).Perm q
  | [], i, x, h => by simp at h
  | r :: q, 0, x, h => by
    simp only [List.getElem?_cons_zero, Option.some.injEq] at h
    subst h
    exact List.Perm.refl _
  | r :: q, i + 1, x, h => by
    have ih := take_drop_perm q i x (by simpa using h)
    show (x :: r :: (q.take i ++ q.drop (i + 1))).Perm (r :: q)
    exact (List.Perm.swap r x _).trans (ih.cons r)
def delA (L : List R2) (k i : Nat) : List R2 := if k < i then L.take k ++ (L.take i).drop (k + 1) else L.take i
theorem delA_step {L : List R2} {j i : Nat} {k : R2} (hk : L[i]? = some k) : delA L j (i + 1) = if i = j then delA L j i else delA L j i ++ [k] := by
  have hi := (List.getElem?_eq_some_iff.1 hk).1
  unfold delA
  by_cases h1 : i = j
  · subst h1
    rw [if_pos rfl, if_pos (by omega), if_neg (by omega), take_succ' L i k hk, List.drop_of_length_le (by rw [List.length_append, List.length_take, List.length_singleton]; omega)]
    simp
  · rw [if_neg h1]
    by_cases h2 : j < i
    · rw [if_pos h2, if_pos (by omega), take_succ' L i k hk, List.drop_append_of_le_length (by rw [List.length_take]; omega)]
      simp
    · rw [if_neg h2, if_neg (by omega), take_succ' L i k hk]
theorem delA_end {L : List R2} {j : Nat} (hj : j < L.length) : delA L j L.length = L.take j ++ L.drop (j + 1) := by
  unfold delA
  rw [if_pos hj, List.take_length]
theorem delA_length (L : List R2) (j i : Nat) : (delA L j i).length ≤ i := by
  unfold delA
  split
  · simp only [List.length_append, List.length_drop, List.length_take]; omega
  · rw [List.length_take]; omega
/-- Where the stretch was met last. -/
def Met (q : List R2) (x : R2) (i : Nat) (k : Int) : Prop := (k = -1 ∧ ∀ j, j < i → q[j]? ≠ some x) ∨ ∃ j : Nat, j < i ∧ k = j ∧ q[j]? = some x
theorem Rm.setrow {w : World} {g bi : Nat} {F : List Nat} {f f' : Nat → Bool} {q : List R2} (h : Rm w g bi F f q) (e : ∀ i, f i = f' i) : Rm w g bi F f' q := by rw [show f' = f from funext fun i => (e i).symm]; exact h
set_option maxRecDepth 100000 in
set_option maxHeartbeats 8000000 in
theorem rdone_any (g bi : Nat) (F : List Nat) (f : Nat → Bool) (q : List R2) (a b : Int) (add : Bool) (w : World) (h : Rm w g bi F f q) (hq : q.length ≤ 100000) :
    Calls Try.prog 28 #[.pointer (some ⟨g, 0, none⟩), .int .i64 a, .int .i64 b, .bool add] w fun e w' => e = .returned (.tuple #[.int .i64 (rdonen f q a b add), .int .i64 (done q a b)]) ∧ ∃ F' q', Chg F F' w w' ∧ Rm w' g bi F' (addf f q a b add) q' ∧ Rest q a b q' := by
  have HM := Lib.hid h
  clear h
  go_enter Try.func28, Try.ntmps28
  go_wp2_with fail
  refine (rwrong_any a b w).mono ?_
  rintro e w1 ⟨rfl, rfl⟩
  by_cases hw : wrg a b = 0
  · obtain ⟨r1, r2, r3⟩ := wrg_ok hw
    rw [hw]
    have HW := Lib.hid hw
    clear hw
    obtain ⟨aq, cqq, _, c1, hQ, _⟩ := HM.out.cells
    have hsl := Sq.slice hQ
    go_wp2_with fail
    go_loopw [11, 12] (fun kv s wr => ∃ (i : Nat) (k : Int), i ≤ q.length ∧ s = .int .i64 (i : Nat) ∧ kv = .int .i64 k ∧ RowKit.Hid (Met q ⟨a, b⟩ i k) ∧ w = wr) (fun _ s _ => q.length - (intOf s).toNat)
    case atStart => exact ⟨0, -1, Nat.zero_le _, rfl, rfl, Lib.hid (.inl ⟨rfl, fun j hj => by omega⟩), rfl⟩
    case round =>
      obtain ⟨i, kv, hi, rfl, rfl, HK, rfl⟩ := hrel
      by_cases hil : i < q.length
      · obtain ⟨bq, cq', hv, hbl, hcell⟩ := hQ.read (ne_nil_of_lt hil)
        cases hv
        have hk := List.getElem?_eq_getElem hil
        generalize q[i] = k at hk
        obtain ⟨e0, e1⟩ := hcell i k hk
        have hiI : ((i : Nat) : Int) < ((q.length : Nat) : Int) := by omega
        have HKK := Lib.hid hk
        clear hcell hk
        obtain ⟨ka, kb⟩ := k
        dsimp only at e0 e1
        have hno : ∀ (hne : ¬ (ka = a ∧ kb = b)), Met q ⟨a, b⟩ (i + 1) kv := fun hne => by
          rcases HK.out with ⟨h1, h2⟩ | ⟨j, h1, h2, h3⟩
          · refine .inl ⟨h1, fun j hj => ?_⟩
            rcases Nat.lt_succ_iff_lt_or_eq.1 hj with h | rfl
            · exact h2 j h
            · rw [HKK.out]
              intro e
              cases e
              exact hne ⟨rfl, rfl⟩
          · exact .inr ⟨j, by omega, h2, h3⟩
        have HNO := Lib.hid hno
        clear hno
        by_cases hka : ka = a
        · subst hka
          by_cases hkb : kb = b
          · subst hkb
            have HN : RowKit.Hid (Met q ⟨ka, kb⟩ (i + 1) (i : Nat)) := Lib.hid (.inr ⟨i, by omega, rfl, HKK.out⟩)
            clear HNO HK
            go_wp2_with fail
            exact ⟨⟨i + 1, (i : Nat), hil, by simp, rfl, HN, trivial⟩, by simp [intOf]; omega⟩
          · have HN := Lib.hid (HNO.out (fun e => hkb e.2))
            clear HNO HK
            go_wp2_with fail
            exact ⟨⟨i + 1, kv, hil, by simp, rfl, HN, trivial⟩, by simp [intOf]; omega⟩
        · have HN := Lib.hid (HNO.out (fun e => hka e.1))
          clear HNO HK
          go_wp2_with fail
          exact ⟨⟨i + 1, kv, hil, by simp, rfl, HN, trivial⟩, by simp [intOf]; omega⟩
      · have hil2 : i = q.length := by omega
        have hmet := HK.out
        rw [hil2] at hmet
        clear HK
        rcases hmet with ⟨hk, hno⟩ | ⟨j, hj, hk, hqj⟩
        · subst hk
          have hin : ¬ hasq q ⟨a, b⟩ = true := fun e => by
            obtain ⟨j, hj⟩ := List.mem_iff_getElem?.1 ((hasq_iff _ _).1 e)
            exact hno j (List.getElem?_eq_some_iff.1 hj).1 hj
          have hd : done q a b = 6 := by unfold done; rw [if_pos HW.out, if_neg hin]
          have HA : RowKit.Hid (done q a b = 6 ∧ rdonen f q a b add = 0 ∧ (∀ i, f i = addf f q a b add i) ∧ Rest q a b q) := Lib.hid ⟨hd, by unfold rdonen; rw [if_neg (fun e => by rw [hd] at e; cases e.2)], fun i => by unfold addf; rw [hd]; simp, by unfold Rest; rw [if_neg (by rw [hd]; decide)]⟩
          clear hd hin hno
          go_wp2_with fail
          refine bodyPost_ret (results_tmp2 rfl _ _ _) rfl ⟨by rw [HA.out.1, HA.out.2.1]; rfl, F, q, Chg.refl _ _, HM.out.setrow HA.out.2.2.1, HA.out.2.2.2⟩
        · subst hk
          have hd : done q a b = 0 := by unfold done; rw [if_pos HW.out, if_pos ((hasq_iff _ _).2 (List.mem_of_getElem? hqj))]
          have HD := Lib.hid hd
          have HQJ := Lib.hid hqj
          clear hd hqj
          have hge : decide ((j : Int) < 0) = false := decide_eq_false (by omega)
          obtain ⟨N, hN⟩ : ∃ N, q.length = N := ⟨_, rfl⟩
          have HNN := Lib.hid hN
          have HQ := Lib.hid hQ
          rw [hN] at c1 hj hq hsl hil
          clear hN hil2 hi hQ
          go_wp2_with fail
          go_loopw [13, 14] (fun o s wr => ∃ (i : Nat) (lo : List R2), i ≤ N ∧ s = .int .i64 (i : Nat) ∧ lo.length ≤ i ∧ RowKit.Hid (lo = delA q j i ∧ Told wr o lo ∧ Chg [] (vblk o) w wr)) (fun _ s _ => N - (intOf s).toNat)
          case atStart => exact ⟨0, [], Nat.zero_le _, rfl, Nat.le_refl _, Lib.hid ⟨by simp [delA], Sq.nil _ _ _, by rw [vblk_nil]; exact Chg.refl _ _⟩⟩
          case round =>
            obtain ⟨i, lo, hi, rfl, hlo, HL⟩ := hrel
            have hbr : Below w.heap.size w wr := HL.out.2.2.below (fun b hb => by simp at hb) (Nat.le_refl _)
            have c1r := cell_keep hbr c1
            by_cases hil : i < N
            · obtain ⟨bq, cq', hv, hbl, hcell⟩ := (HQ.out.below hbr).read (ne_nil_of_lt (by rw [HNN.out]; exact hil))
              rw [HNN.out] at hv
              cases hv
              have hk := List.getElem?_eq_getElem (show i < q.length by rw [HNN.out]; exact hil)
              generalize q[i]'(by rw [HNN.out]; exact hil) = k at hk
              obtain ⟨e0, e1⟩ := hcell i k hk
              have hiI : ((i : Nat) : Int) < ((N : Nat) : Int) := by omega
              have HS := Lib.hid (delA_step (j := j) hk)
              clear hcell hk hbr
              by_cases hij : i = j
              · have HN : RowKit.Hid (lo = delA q j (i + 1) ∧ Told wr u13 lo ∧ Chg [] (vblk u13) w wr) := Lib.hid ⟨by rw [HS.out, if_pos hij]; exact HL.out.1, HL.out.2⟩
                subst hij
                clear HL HS
                go_wp2_with fail
                exact ⟨⟨i + 1, lo, hil, by simp, by omega, HN⟩, by simp [intOf]; omega⟩
              · have hne : ((i : Int) != (j : Int)) = true := by rw [bne_iff_ne]; omega
                have hne2 : ((i : Int) == (j : Int)) = false := by rw [beq_eq_false_iff_ne]; omega
                have HE : RowKit.Hid (lo ++ [k] = delA q j (i + 1)) := Lib.hid (by rw [HS.out, if_neg hij, HL.out.1])
                obtain ⟨ao1, cap1, rfl, _, _⟩ := HL.out.2.1.slice
                have hA : Below wr.heap.size wr (wr.alloc (.cells #[.int .i64 k.a, .int .i64 k.b] 30)) := (Below.refl _ wr).alloc (Nat.le_refl _) _
                have hown := HL.out.2.1.below hA
                have hnew := news_alloc wr #[.int .i64 k.a, .int .i64 k.b] 30
                have HC := Lib.hid (HL.out.2.2.trans (Chg.of_below hA))
                obtain ⟨i0, hi0, hz0, hz1, hz2⟩ := info_parts (show (Try.prog.info? 30).map (fun i => (i.zero, i.size, i.bytes)) = some (some (.agg #[.int .i64 0, .int .i64 0]), 2, 16) by kernel_rfl)
                clear hA HL HS hij
                go_wp2_with (at_builtin; refine wpList_append_any _ rfl (.tmp 69) (.tmp 77) 28 rfl 30 i0 (.agg #[.int .i64 0, .int .i64 0]) 2 16 Try.underlying28 hi0 hz0 hz1 hz2 rfl (by decide) (.slice ao1 lo.length cap1) lo.length (rc lo) rfl hown (some ⟨wr.heap.size, 0, none⟩) 1 1 (rc [k]) rfl (fun h => by cases h) rfl (fun a ha => by cases ha; rw [rc_one]; exact hnew) (rc_onecell _) (by unfold maxLen; omega) (by omega) ?_; intro v2 w7 hown2 hgr2)
                exact ⟨⟨i + 1, lo ++ [k], hil, by simp, by rw [List.length_append]; simp; omega, Lib.hid ⟨HE.out, Told.one_more hown2, HC.out.trans hgr2⟩⟩, by simp [intOf]; omega⟩
            · have hiN : i = N := by omega
              obtain ⟨ao1, cap1, rfl, _, _⟩ := HL.out.2.1.slice
              have hl := HL.out.1
              rw [hiN, ← HNN.out, delA_end (by rw [HNN.out]; exact hj)] at hl
              obtain ⟨vq, rfl, m1, m2, m3, m4, m5, m6⟩ := HM.out
              obtain ⟨y1, y2⟩ := Rm.setq m1 m2 m3 m4 m5 (HL.out.2.2.mono (fun x hx => by simp at hx)) HL.out.2.1
              have hg4 := (hbr.block g (lt_of_block m4)).trans m4
              have f4 := frozen_of_row wr g 1 _ 43 hg4
              have HY := Lib.hid (And.intro y1 y2)
              have HRS : RowKit.Hid (Rest q a b lo) := Lib.hid (by unfold Rest; rw [if_pos HD.out, hl]; exact take_drop_perm q j _ HQJ.out)
              clear m1 m2 m3 m4 m5 m6 y1 y2 hg4 hl hbr HL hsl
              cases add with
              | false =>
                have HA : RowKit.Hid (rdonen f q a b false = 0 ∧ ∀ i, f i = addf f q a b false i) := Lib.hid ⟨by unfold rdonen; rw [if_neg (fun e => by cases e.1)], fun i => by unfold addf; simp⟩
                go_wp2_with fail
                refine bodyPost_ret (results_tmp2 rfl _ _ _) rfl ⟨by rw [HD.out, HA.out.1]; rfl, _, lo, HY.out.1, HY.out.2.setrow HA.out.2, HRS.out⟩
              | true =>
                have HA : RowKit.Hid (rdonen f q a b true = b - a - rcnt f a b ∧ ∀ i, (f i || inI a b i) = addf f q a b true i) := Lib.hid ⟨by unfold rdonen; rw [if_pos ⟨rfl, HD.out⟩], fun i => by unfold addf; rw [HD.out]; simp⟩
                go_upto_region 21 with fail
                clear f4 c1r
                generalize wr.setCell ⟨g, 1, none⟩ (.slice ao1 lo.length cap1) = w5 at *
                go_wp2_with fail
                refine (rcount_any g bi _ f lo a b w5 HY.out.2).mono ?_
                rintro e w6 ⟨rfl, rfl⟩
                have hcl : cq f a b 65536 ≤ 65536 := cq_le f a b 65536
                have HRC : RowKit.Hid (rcnt f a b = (cq f a b 65536 : Nat)) := Lib.hid rfl
                have hs2 : IntKind.i64.wrap (b - a) = b - a := by rw [IntKind.wrap_i64]; omega
                generalize cq f a b 65536 = c at *
                have hs1 : IntKind.i64.wrap (b - a - (c : Int)) = b - a - (c : Int) := by rw [IntKind.wrap_i64]; omega
                go_wp2_with fail
                go_loopw [16] (fun s wx => ∃ k : Nat, a ≤ (k : Int) ∧ (k : Int) ≤ b ∧ s = .int .i64 (k : Nat) ∧ RowKit.Hid (Rm wx g bi (g :: bi :: vblk (.slice ao1 lo.length cap1)) (fun i => f i || inI a k i) lo ∧ Chg (g :: bi :: vblk (.slice ao1 lo.length cap1)) (g :: bi :: vblk (.slice ao1 lo.length cap1)) w5 wx)) (fun s _ => (b - intOf s).toNat)
                case atStart => exact ⟨a.toNat, by omega, by omega, by rw [Int.toNat_of_nonneg r1], Lib.hid ⟨HY.out.2.setrow (fun i => by
                  have : inI a ((a.toNat : Nat) : Int) i = false := by
                    unfold inI
                    rw [Int.toNat_of_nonneg r1]
                    by_cases h : a ≤ (i : Int)
                    · rw [decide_eq_false (show ¬ (i : Int) < a by omega), Bool.and_false]
                    · rw [decide_eq_false h, Bool.false_and]
                  rw [this, Bool.or_false]), Chg.refl _ _⟩⟩
                case round =>
                  obtain ⟨k, hk1, hk2, rfl, HX⟩ := hrel
                  by_cases hkb : (k : Int) < b
                  · have hkb' : decide ((k : Int) < b) = true := decide_eq_true hkb
                    obtain ⟨aqx, cqx, x0, _, _, xc⟩ := HX.out.1.cells
                    have xk := xc k (by omega)
                    have xf := HX.out.1.frozen k
                    have hk6 : ((k : Nat) : Int) < 65536 := by omega
                    have hk7 : k < 65536 := by omega
                    obtain ⟨z1, z2⟩ := HX.out.1.setf k true
                    have HZ : RowKit.Hid (Rm (wr.setCell ⟨bi, k, none⟩ (.bool true)) g bi (g :: bi :: vblk (.slice ao1 lo.length cap1)) (fun i => f i || inI a ((k + 1 : Nat) : Int) i) lo ∧ Chg (g :: bi :: vblk (.slice ao1 lo.length cap1)) (g :: bi :: vblk (.slice ao1 lo.length cap1)) w5 (wr.setCell ⟨bi, k, none⟩ (.bool true))) := Lib.hid ⟨z2.setrow (fun i => by
                      unfold inI
                      by_cases hik : i = k
                      · subst hik
                        rw [if_pos rfl, decide_eq_true hk1, decide_eq_true (show (i : Int) < ((i + 1 : Nat) : Int) by omega)]
                        simp
                      · rw [if_neg hik]
                        congr 2
                        rw [Bool.eq_iff_iff, decide_eq_true_eq, decide_eq_true_eq]
                        omega), HX.out.2.trans z1⟩
                    clear xc z1 z2 HX
                    go_wp2_with fail
                    exact ⟨⟨k + 1, by omega, by omega, by simp, HZ⟩, by simp [intOf]; omega⟩
                  · have hkb' : decide ((k : Int) < b) = false := decide_eq_false hkb
                    have hkb2 : (k : Int) = b := by omega
                    have HZ : RowKit.Hid (Rm wr g bi (g :: bi :: vblk (.slice ao1 lo.length cap1)) (addf f q a b true) lo) := Lib.hid (HX.out.1.setrow (fun i => by rw [hkb2]; exact HA.out.2 i))
                    clear hkb2
                    go_wp2_with fail
                    refine bodyPost_ret (results_tmp2 rfl _ _ _) rfl ⟨by rw [HD.out, HA.out.1, HRC.out]; rfl, _, HY.out.1.trans HX.out.2, lo, HZ.out, HRS.out⟩
  · have hd : done q a b = 3 := by unfold done; rw [if_neg hw]
    have HA : RowKit.Hid (done q a b = 3 ∧ rdonen f q a b add = 0 ∧ (∀ i, f i = addf f q a b add i) ∧ Rest q a b q) := Lib.hid ⟨hd, by unfold rdonen; rw [if_neg (fun e => by rw [hd] at e; cases e.2)], fun i => by unfold addf; rw [hd]; simp, by unfold Rest; rw [if_neg (by rw [hd]; decide)]⟩
    rw [wrg_no hw]
    clear hw hd
    go_wp2_with fail
    refine bodyPost_ret (results_tmp2 rfl _ _ _) rfl ⟨by rw [HA.out.1, HA.out.2.1]; rfl, F, q, Chg.refl _ _, HM.out.setrow HA.out.2.2.1, HA.out.2.2.2⟩

end Go.Proofs.Ytnakmjajpfilgaa
