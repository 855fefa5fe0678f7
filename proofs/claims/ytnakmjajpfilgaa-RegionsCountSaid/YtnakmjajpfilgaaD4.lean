/- Parts of the proofs of layer 20 (regions): contracts of its functions, and the laws' walks. -/
import Derived.Test.YtnakmjajpfilgaaProg
import Derived.WalkKit
import Derived.WalkSpells
import Derived.WalkLawsBesides
import Derived.BigQuiet
import Derived.Deep.QuietTactic
import Derived.Lib.Hide
import Derived.Deep.RegionHeld3
import Derived.Deep.DeepCutAuto
import Derived.KernelRfl
import Derived.Deep.OwnRows
import Derived.Laws.CopyOwn
import Derived.Laws.CopyRow
import Derived.StillTailTactics
import Derived.Deep.RegionLaw
import Derived.Test.YtnakmjajpfilgaaD3
import Derived.ChangeKeysEq
namespace Go.Proofs.Ytnakmjajpfilgaa
open Go.RowKit
set_option linter.unusedVariables false
set_option linter.unusedSimpArgs false

theorem eq2 (a b c d : Int) (w : World) : (Op.equalIn 10000 30 (.agg #[.int .i64 a, .int .i64 b]) (.agg #[.int .i64 c, .int .i64 d])).run Try.prog w = .ok (a == c && b == d) w := by
  obtain ⟨i, hi, _⟩ := info_parts (show (Try.prog.info? 3).map (fun i => (i.zero, i.size, i.bytes)) = some (some (.int .i64 0), 1, 8) by kernel_rfl)
  have e := run_equalIn_array (P := Try.prog) w 9999 (t := 30) (e := 3) (n := 2) #[.int .i64 a, .int .i64 b] #[.int .i64 c, .int .i64 d] (by kernel_rfl) hi
  rw [show Try.prog.cellsOf 3 = 1 by kernel_rfl, show List.range 2 = [0, 1] from rfl] at e
  rw [e]
  have hu : Try.prog.underlying 3 = some (.int .i64) := by kernel_rfl
  have p0 : ∀ (x y : Int) (w : World), (part 3 #[.int .i64 x, .int .i64 y] 0).run Try.prog w = .ok (.int .i64 x) w := fun x y w => by simp [part, isAgg, run_underlying hu]
  have p1 : ∀ (x y : Int) (w : World), (part 3 #[.int .i64 x, .int .i64 y] 1).run Try.prog w = .ok (.int .i64 y) w := fun x y w => by simp [part, isAgg, run_underlying hu]
  have q : ∀ (x y : Int) (w : World), (Op.equalIn 9999 3 (.int .i64 x) (.int .i64 y)).run Try.prog w = .ok (x == y) w := fun x y w => run_equalIn_int w 9998 3 .i64 .i64 x y hu
  simp only [Op.eqItems, Nat.zero_mul, Nat.one_mul, Sem.run_bind, p0, p1, q, Result.andThen_ok]
  cases h : (a == c)
  · simp
  · cases h2 : (b == d) <;> simp [p1, q, h2]
/-- The first of its like is taken out. -/
def era : List R2 → R2 → List R2
  | [], _ => []
  | r :: l, x => if r = x then l else r :: era l x
def hasq (q : List R2) (x : R2) : Bool := q.any fun r => decide (r = x)
theorem hasq_iff (q : List R2) (x : R2) : hasq q x = true ↔ x ∈ q := by
  unfold hasq
  simp only [List.any_eq_true, decide_eq_true_eq]
  exact ⟨fun ⟨r, h, e⟩ => e ▸ h, fun h => ⟨x, h, rfl⟩⟩
theorem era_at : ∀ (q : List R2) (x : R2) (i : Nat), q[i]? = some x → (∀ j, j < i → q[j]? ≠ some x) → era q x = q.take i ++ q.drop (i + 1)
  | [], x, i, h, _ => by simp at h
  | r :: q, x, 0, h, _ => by
    simp only [List.getElem?_cons_zero, Option.some.injEq] at h
    unfold era
    rw [if_pos h]
    rfl
  | r :: q, x, i + 1, h, hn => by
    unfold era
    have h0 := hn 0 (by omega)
    simp only [List.getElem?_cons_zero, ne_eq, Option.some.injEq] at h0
    rw [if_neg h0, era_at q x i (by simpa using h) (fun j hj => by have := hn (j + 1) (by omega); simpa using this)]
    rfl
theorem era_length (q : List R2) (x : R2) : (era q x).length ≤ q.length := by
  induction q with
  | nil => exact Nat.le_refl _
  | cons r q ih =>
    unfold era
    split
    · rw [List.length_cons]; omega
    · rw [List.length_cons, List.length_cons]; omega
theorem era_perm : ∀ {q : List R2} {x : R2}, x ∈ q → (x :: era q x).Perm q
  | [], _, h => by simp at h
  | r :: q, x, h => by
    unfold era
    by_cases hr : r = x
    · subst hr
      rw [if_pos rfl]
    · rw [if_neg hr]
      rcases List.mem_cons.1 h with h | h
      · exact absurd h.symm hr
      · exact (List.Perm.swap r x _).trans ((era_perm h).cons r)
/-- What done answers, what it leaves. -/
def done (q : List R2) (a b : Int) : Int := if wrg a b = 0 then (if hasq q ⟨a, b⟩ = true then 0 else 6) else 3
def doneq (q : List R2) (a b : Int) : List R2 := if wrg a b = 0 ∧ hasq q ⟨a, b⟩ = true then era q ⟨a, b⟩ else q
set_option maxRecDepth 100000 in
set_option maxHeartbeats 8000000 in
theorem done_any (g : Nat) (F : List Nat) (l q : List R2) (a b : Int) (w : World) (h : Mp w g F l q) (hq : q.length ≤ 100000) :
    Calls Try.prog 26 #[.pointer (some ⟨g, 0, none⟩), .int .i64 a, .int .i64 b] w fun e w' => e = .returned (.int .i64 (done q a b)) ∧ ∃ F', Chg F F' w w' ∧ Mp w' g F' l (doneq q a b) := by
  have HM := Lib.hid h
  clear h
  go_enter Try.func26, Try.ntmps26
  go_wp2_with fail
  refine (wrong_any g a b w).mono ?_
  rintro e w1 ⟨rfl, rfl⟩
  by_cases hw : wrg a b = 0
  · rw [hw]
    have HW := Lib.hid hw
    clear hw
    obtain ⟨al, cl, aq, cq, _, c1, _, hQ⟩ := HM.out.cells
    have hqs := Sq.slice hQ
    go_wp2_with fail
    go_loopw [21] (fun s wr => ∃ i : Nat, i ≤ q.length ∧ s = .int .i64 (i : Nat) ∧ RowKit.Hid (∀ j, j < i → q[j]? ≠ some ⟨a, b⟩) ∧ w = wr) (fun s _ => q.length - (intOf s).toNat)
    case atStart => exact ⟨0, Nat.zero_le _, rfl, Lib.hid (fun j hj => by omega), rfl⟩
    case round =>
      obtain ⟨i, hi, rfl, HNO, rfl⟩ := hrel
      by_cases hil : i < q.length
      · obtain ⟨bq, cq', hv, hbl, hcell⟩ := hQ.read (ne_nil_of_lt hil)
        cases hv
        have hk := List.getElem?_eq_getElem hil
        generalize q[i] = k at hk
        obtain ⟨e0, e1⟩ := hcell i k hk
        have hiI : ((i : Nat) : Int) < ((q.length : Nat) : Int) := by omega
        have HK := Lib.hid hk
        clear hcell hk
        obtain ⟨ka, kb⟩ := k
        dsimp only at e0 e1
        by_cases hkx : ka = a ∧ kb = b
        · obtain ⟨rfl, rfl⟩ := hkx
          have hin : hasq q ⟨ka, kb⟩ = true := (hasq_iff _ _).2 (List.mem_of_getElem? HK.out)
          have HA : RowKit.Hid (done q ka kb = 0 ∧ doneq q ka kb = q.take i ++ q.drop (i + 1)) := Lib.hid ⟨by unfold done; rw [if_pos HW.out, if_pos hin], by unfold doneq; rw [if_pos ⟨HW.out, hin⟩]; exact era_at q _ i HK.out HNO.out⟩
          have heq : ∀ w, (Op.equalIn 10000 30 (.agg #[.int .i64 ka, .int .i64 kb]) (.agg #[.int .i64 ka, .int .i64 kb])).run Try.prog w = .ok true w := fun w => by rw [eq2]; simp
          clear hin
          go_upto_region 8 with fail
          clear heq e0 e1
          obtain ⟨vl, vq, rfl, h1, h2, h3, h4, h5, h6⟩ := HM.out
          have e1 := cell_of_row w g 1 _ 52 _ h4
          replace e1 : w.cell? ⟨g, 1, none⟩ = some vq := e1
          rw [c1] at e1
          simp only [Option.some.injEq] at e1
          subst e1
          have hE := Sq.lit w #[] 30 2 0 (by unfold maxLen; omega) rfl
          have hbA : Below w.heap.size w (w.alloc (.cells #[] 30)) := (Below.refl _ w).alloc (Nat.le_refl _) _
          have hA := h6.below hbA
          have h5A := h5.below hbA
          have hgA := (hbA.block g (lt_of_block h4)).trans h4
          have cA := cell_of_row (w.alloc (.cells #[] 30)) g 1 _ 52 _ hgA
          replace cA : (w.alloc (.cells #[] 30)).cell? ⟨g, 1, none⟩ = some (.slice (some ⟨bq, 0, none⟩) q.length cq) := cA
          have hgl := lt_of_block h4
          have hbl6 := h6.lt
          have HC := Lib.hid (chg_new w (.cells #[] 30))
          obtain ⟨_, _, hvv, hnc, hcm⟩ := hqs
          cases hvv
          have hn2 : i ≤ cq := by omega
          have hn3 : i + 1 ≤ cq := by omega
          have hj0 : 0 ≤ (i : Int) + 1 := by omega
          have hj1 : (i : Int) + 1 ≤ (q.length : Int) := by omega
          have hw1 : IntKind.i64.wrap ((i : Int) + 1) = (i : Int) + 1 := by rw [IntKind.wrap_i64]; omega
          obtain ⟨p1, p2⟩ := head_cells hA (Nat.le_of_lt hil)
          have hl1 : (rc (q.take i)).length = i * 2 := by rw [rc_length, List.length_take, Nat.min_eq_left (Nat.le_of_lt hil)]
          have hl2 : (rc (q.drop (i + 1))).length = (q.length - (i + 1)) * 2 := by rw [rc_length, List.length_drop]
          have HGR : RowKit.Hid (∀ v' w3, Told w3 v' (q.take i ++ q.drop (i + 1)) → Chg [] (vblk v') w w3 → ∃ F', Chg (g :: (vblk vl ++ vblk (.slice (some ⟨bq, 0, none⟩) q.length cq))) F' w (w3.setCell ⟨g, 1, none⟩ v') ∧ Mp (w3.setCell ⟨g, 1, none⟩ v') g F' l (q.take i ++ q.drop (i + 1))) := Lib.hid (fun v' w3 hT hc => by
            obtain ⟨x1, x2⟩ := Mp.setq h1 h2 h3 h4 h5 h6.lt (hc.mono (fun b hb => by simp at hb)) hT
            exact ⟨_, x1, x2⟩)
          obtain ⟨i0, hi0, hz0, hz1, hz2⟩ := info_parts (show (Try.prog.info? 30).map (fun i => (i.zero, i.size, i.bytes)) = some (some (.agg #[.int .i64 0, .int .i64 0]), 2, 16) by kernel_rfl)
          clear h4 h5 h6 hQ h5A hbl
          go_region_law (first
            | (refine step_append_any _ rfl (.tmp 36) (.tmp 42) 28 rfl 30 i0 (.agg #[.int .i64 0, .int .i64 0]) 2 16 Try.underlying28 hi0 hz0 hz1 hz2 rfl (by decide) (.slice (some ⟨w.heap.size, 0, none⟩) 0 0) 0 [] rfl hE _ i cq (rc (q.take i)) rfl p1 hl1 p2 (rc_onecell _) (by unfold maxLen; omega) (by omega) ?_; intro v1 w2 hown1 hgr1; rw [Nat.zero_add, List.nil_append] at hown1; have hA2 := hA.chg hgr1 (fun b hb hm => by rw [vblk_some] at hm; have := hbl6 b hb; simp at hm; omega); have hg2 := (hgr1.block (lt_of_block hgA) (fun hm => by rw [vblk_some] at hm; simp at hm; omega)).trans hgA; have c2 := cell_of_row w2 g 1 _ 52 _ hg2; replace c2 : w2.cell? ⟨g, 1, none⟩ = some (.slice (some ⟨bq, 0, none⟩) q.length cq) := c2; obtain ⟨q1, q2⟩ := rest_cells hA2 hil; simp only [Option.map_some, Addr.add_lit, Nat.zero_add, Nat.succ_eq_add_one] at q1 q2)
            | (refine step_append_any _ rfl (.tmp 43) (.tmp 50) 28 rfl 30 i0 (.agg #[.int .i64 0, .int .i64 0]) 2 16 Try.underlying28 hi0 hz0 hz1 hz2 rfl (by decide) v1 _ _ rfl hown1 _ (q.length - (i + 1)) (cq - (i + 1)) (rc (q.drop (i + 1))) rfl q1 hl2 q2 (rc_onecell _) (by unfold maxLen; omega) (by omega) ?_; intro v2 w3 hown2 hgr2; obtain ⟨ao3, cap3, rfl, hnc3, hcm3⟩ := Sq.slice hown2; have hgv : g ∉ vblk v1 := hgr1.out (fun hm => by rw [vblk_some] at hm; simp at hm; omega) (lt_of_block hgA); have hg3 := (hgr2.block (lt_of_block hg2) hgv).trans hg2; have c3 := cell_of_row w3 g 1 _ 52 _ hg3; have f3 := frozen_of_row w3 g 1 _ 52 hg3))
          all_goals go_wp2_with fail
          all_goals
            have hlen : (q.take i ++ q.drop (i + 1)).length = i + (q.length - (i + 1)) := by rw [List.length_append, List.length_take, List.length_drop]; omega
            obtain ⟨F', x1, x2⟩ := HGR.out _ w3 (by unfold Told; rw [hlen, rc_append]; exact hown2) ((HC.out.trans hgr1.drew').trans hgr2)
            refine bodyPost_ret (results_tmp rfl _ _ _) rfl ⟨by rw [HA.out.1]; rfl, F', ?_, ?_⟩
            · first | exact x1 | (rw [vblk_any (some ⟨bq, 0, none⟩) q.length (i + 1) q.length cq]; exact x1)
            · rw [HA.out.2]; exact x2
        · have hne : (⟨ka, kb⟩ : R2) ≠ ⟨a, b⟩ := fun e => hkx (by cases e; exact ⟨rfl, rfl⟩)
          have HNN : RowKit.Hid (∀ j, j < i + 1 → q[j]? ≠ some ⟨a, b⟩) := Lib.hid (fun j hj => by
            rcases Nat.lt_succ_iff_lt_or_eq.1 hj with h | rfl
            · exact HNO.out j h
            · rw [HK.out]; simpa using hne)
          clear hne
          have heq : ∀ w, (Op.equalIn 10000 30 (.agg #[.int .i64 ka, .int .i64 kb]) (.agg #[.int .i64 a, .int .i64 b])).run Try.prog w = .ok false w := fun w => by
            rw [eq2]
            have : (ka == a && kb == b) = false := by
              cases hh : (ka == a && kb == b) with
              | false => rfl
              | true => simp at hh; exact absurd hh hkx
            rw [this]
          clear hkx
          go_wp2_with fail
          exact ⟨⟨i + 1, hil, by simp, HNN, trivial⟩, by simp [intOf]; omega⟩
      · have hin : ¬ hasq q ⟨a, b⟩ = true := fun e => by
          obtain ⟨j, hj⟩ := List.mem_iff_getElem?.1 ((hasq_iff _ _).1 e)
          have := (List.getElem?_eq_some_iff.1 hj).1
          exact HNO.out j (by omega) hj
        have HA : RowKit.Hid (done q a b = 6 ∧ doneq q a b = q) := Lib.hid ⟨by unfold done; rw [if_pos HW.out, if_neg hin], by unfold doneq; rw [if_neg (fun e => hin e.2)]⟩
        clear hin
        go_wp2_with fail
        exact bodyPost_ret (results_tmp rfl _ _ _) rfl ⟨by rw [HA.out.1]; rfl, F, Chg.refl _ _, by rw [HA.out.2]; exact HM.out⟩
  · have HA : RowKit.Hid (done q a b = 3 ∧ doneq q a b = q) := Lib.hid ⟨by unfold done; rw [if_neg hw], by unfold doneq; rw [if_neg (fun e => hw e.1)]⟩
    rw [wrg_no hw]
    clear hw
    go_wp2_with fail
    exact bodyPost_ret (results_tmp rfl _ _ _) rfl ⟨by rw [HA.out.1]; rfl, F, Chg.refl _ _, by rw [HA.out.2]; exact HM.out⟩
theorem abort_any (g : Nat) (F : List Nat) (l q : List R2) (a b : Int) (w : World) (h : Mp w g F l q) (hq : q.length ≤ 100000) :
    Calls Try.prog 16 #[.pointer (some ⟨g, 0, none⟩), .int .i64 a, .int .i64 b] w fun e w' => e = .returned (.int .i64 (done q a b)) ∧ ∃ F', Chg F F' w w' ∧ Mp w' g F' l (doneq q a b) := by
  have HM := Lib.hid h
  clear h
  go_enter Try.func16, Try.ntmps16
  go_wp2_with fail
  refine (done_any g F l q a b w HM.out hq).mono ?_
  rintro e w1 ⟨rfl, F', hc, hm⟩
  have HC := Lib.hid (And.intro hc hm)
  clear hc hm
  go_wp2_with fail
  exact bodyPost_ret (results_tmp rfl _ _ _) rfl ⟨rfl, F', HC.out⟩

end Go.Proofs.Ytnakmjajpfilgaa
