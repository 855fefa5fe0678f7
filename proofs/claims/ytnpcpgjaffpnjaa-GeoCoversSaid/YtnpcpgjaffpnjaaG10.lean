/- Parts of the proofs of layer 3 (geo): contracts of its functions, and the laws' walks. -/
import Derived.Test.YtnpcpgjaffpnjaaProg
import Derived.WalkKit
import Derived.WalkSpells
import Derived.WalkLawsBesides
import Derived.BigQuiet
import Derived.Deep.QuietTactic
import Derived.Lib.Hide
import Derived.Deep.RegionHeld3
import Derived.Deep.DeepCutAuto
import Derived.KernelRfl
import Derived.Test.YtnpcpgjaffpnjaaG9
namespace Go.Proofs.Ytnpcpgjaffpnjaa
open Go.RowKit
set_option linter.unusedVariables false
set_option linter.unusedSimpArgs false

/-- Where the i-th block begins. -/
def stt (most at_ e : Int) : Nat → Int
  | 0 => at_
  | i + 1 => stt most at_ e i + two (kk (stt most at_ e i) (e - stt most at_ e i) most)
def odr (most at_ e : Int) (i : Nat) : Int := kk (stt most at_ e i) (e - stt most at_ e i) most
theorem stt_shift (most at_ e : Int) : ∀ i, stt most at_ e (i + 1) = stt most (at_ + two (kk at_ (e - at_) most)) e i
  | 0 => rfl
  | i + 1 => by
    have ih := stt_shift most at_ e i
    show stt most at_ e (i + 1) + two (kk (stt most at_ e (i + 1)) (e - stt most at_ e (i + 1)) most) = _
    rw [ih]
    rfl
theorem cuts_stt (most : Int) : ∀ (f : Nat) (at_ n : Int), n ≤ f → 0 ≤ n → (∀ i, i < (cuts most f at_ n).length → (cuts most f at_ n).getD i (0, 0) = (stt most at_ (at_ + n) i, odr most at_ (at_ + n) i) ∧ stt most at_ (at_ + n) i < at_ + n) ∧ stt most at_ (at_ + n) (cuts most f at_ n).length = at_ + n
  | 0, at_, n, h, h0 => by
    have hn : n = 0 := by omega
    subst hn
    exact ⟨fun i hi => by simp [cuts] at hi, by show at_ = at_ + 0; omega⟩
  | f + 1, at_, n, h, h0 => by
    rw [cuts_succ]
    by_cases hn : n ≤ 0
    · rw [if_pos hn]
      have hn : n = 0 := by omega
      subst hn
      exact ⟨fun i hi => by simp at hi, by show at_ = at_ + 0; omega⟩
    · rw [if_neg hn]
      have hk := kk_cases at_ n most (by omega)
      have hkn : kk at_ (at_ + n - at_) most = kk at_ n most := by rw [show at_ + n - at_ = n from by omega]
      obtain ⟨h1, h2⟩ := cuts_stt most f (at_ + two (kk at_ n most)) (n - two (kk at_ n most)) (by omega) (by omega)
      have he : at_ + two (kk at_ n most) + (n - two (kk at_ n most)) = at_ + n := by omega
      rw [he] at h1 h2
      have hs : ∀ i, stt most at_ (at_ + n) (i + 1) = stt most (at_ + two (kk at_ n most)) (at_ + n) i := fun i => by rw [stt_shift, hkn]
      refine ⟨fun i hi => ?_, ?_⟩
      · cases i with
        | zero =>
          refine ⟨?_, by show at_ < at_ + n; omega⟩
          show (at_, kk at_ n most) = (at_, kk at_ (at_ + n - at_) most)
          rw [hkn]
        | succ i =>
          have hi' : i < (cuts most f (at_ + two (kk at_ n most)) (n - two (kk at_ n most))).length := by simpa using hi
          have h3 := h1 i hi'
          refine ⟨?_, by rw [hs]; exact h3.2⟩
          have e1 : odr most at_ (at_ + n) (i + 1) = odr most (at_ + two (kk at_ n most)) (at_ + n) i := by unfold odr; rw [hs]
          rw [hs, e1, ← h3.1]
          rfl
      · rw [List.length_cons, hs]
        exact h2
/-- So many blocks of one order follow one another: they lie one behind the other. -/
theorem stt_run (most at_ e k : Int) (i : Nat) : ∀ m, (∀ d, d < m → odr most at_ e (i + d) = k) → stt most at_ e (i + m) = stt most at_ e i + m * two k
  | 0, _ => by simp
  | m + 1, h => by
    have ih := stt_run most at_ e k i m (fun d hd => h d (by omega))
    have h1 : stt most at_ e (i + m + 1) = stt most at_ e (i + m) + two (odr most at_ e (i + m)) := rfl
    rw [← Nat.add_assoc, h1, ih, h m (by omega)]
    have : ((m + 1 : Nat) : Int) * two k = m * two k + two k := by rw [Int.natCast_add, Int.add_mul]; simp
    omega
/-- Eight blocks of one order, of which the first begins evenly, would be one of the next. -/
theorem no_eight (most at_ e k : Int) (i : Nat) (hm : 0 ≤ most) (hle : stt most at_ e (i + 8) ≤ e) (h : ∀ d, d < 8 → odr most at_ e (i + d) = k) (hk : k + 3 ≤ most) (hm8 : most ≤ 8) (he : evn (stt most at_ e i) (k + 3) = true) : False := by
  have h8 := stt_run most at_ e k i 8 h
  have h0 := h 0 (by omega)
  rw [Nat.add_zero] at h0
  have h2 := two_pos k
  have hcs := kk_le (stt most at_ e i) (e - stt most at_ e i) most hm
  unfold odr at h0
  rw [h0] at hcs
  have hkk := kk_up (stt most at_ e i) (e - stt most at_ e i) most k (by omega) hm hm8 hcs.2 (by omega)
  have h3 : siz (k + 3) ≤ e - stt most at_ e i := by
    obtain ⟨t0, _, _, t3, _, _, t6, _, _⟩ := two_vals
    have s3 : siz 3 = 8 := by decide
    have s6 : siz 6 = 64 := by decide
    rcases hcs.2 with rfl | rfl | rfl
    · rw [show (0 : Int) + 3 = 3 from rfl, s3]; rw [t0] at h8; omega
    · rw [show (3 : Int) + 3 = 6 from rfl, s6]; rw [t3] at h8; omega
    · omega
  have := (hkk.1 hk he h3).1
  omega
theorem odr_facts (most at_ e : Int) (i : Nat) (hm : 0 ≤ most) (hlt : stt most at_ e i < e) : (0 ≤ odr most at_ e i ∧ odr most at_ e i ≤ 6) ∧ odr most at_ e i ≤ most ∧ (odr most at_ e i % 3 != 0) = false ∧ evn (stt most at_ e i) (odr most at_ e i) = true ∧ wrap64 (2 ^ (odr most at_ e i).toNat) = two (odr most at_ e i) := by
  have h1 := kk_le (stt most at_ e i) (e - stt most at_ e i) most hm
  unfold odr
  refine ⟨by omega, h1.1, ?_, ?_, two_wrap _ h1.2⟩
  · rcases h1.2 with h | h | h <;> rw [h] <;> rfl
  · obtain ⟨t0, _, _, t3, _, _, t6, _, _⟩ := two_vals
    unfold kk
    split
    · rename_i h; simp [evn, ord, t6, h.2.1]
    · split
      · rename_i h; simp [evn, ord, t3, h.2.1]
      · simp [evn, ord, t0]
/-- How many went before of the same order. -/
def Ran (most at_ e : Int) (i c : Nat) : Prop := (i = 0 → c = 0) ∧ (0 < i → c + 1 ≤ i ∧ ∀ d, d ≤ c → odr most at_ e (i - 1 - d) = odr most at_ e (i - 1))
theorem ran_same {most at_ e : Int} {i c : Nat} (h : Ran most at_ e i c) (hi : 0 < i) (he : odr most at_ e i = odr most at_ e (i - 1)) : Ran most at_ e (i + 1) (c + 1) := by
  obtain ⟨h1, h2⟩ := h.2 hi
  refine ⟨fun h => by omega, fun _ => ⟨by omega, fun d hd => ?_⟩⟩
  cases d with
  | zero => rfl
  | succ d =>
    have h3 := h2 d (by omega)
    rw [show i + 1 - 1 - (d + 1) = i - 1 - d from by omega, h3, show i + 1 - 1 = i from rfl, he]
theorem ran_zero {most at_ e : Int} {i : Nat} : Ran most at_ e (i + 1) 0 := ⟨fun h => by omega, fun _ => ⟨by omega, fun d hd => (by rw [Nat.le_zero.1 hd]; rfl)⟩⟩
theorem stt_step_le (most at_ e : Int) (i : Nat) : stt most at_ e i ≤ stt most at_ e (i + 1) := by
  have h := two_pos (kk (stt most at_ e i) (e - stt most at_ e i) most)
  show stt most at_ e i ≤ stt most at_ e i + _
  omega
theorem stt_bounds (most at_ n : Int) (f : Nat) (h : n ≤ f) (h0 : 0 ≤ n) : ∀ i, i ≤ (cuts most f at_ n).length → at_ ≤ stt most at_ (at_ + n) i ∧ stt most at_ (at_ + n) i ≤ at_ + n := by
  obtain ⟨h1, h2⟩ := cuts_stt most f at_ n h h0
  have hle : ∀ i, at_ ≤ stt most at_ (at_ + n) i := by
    intro i
    induction i with
    | zero => exact Int.le_refl _
    | succ i ih => exact Int.le_trans ih (stt_step_le _ _ _ _)
  intro i hi
  refine ⟨hle i, ?_⟩
  rcases Nat.lt_or_ge i (cuts most f at_ n).length with h3 | h3
  · exact Int.le_of_lt (h1 i h3).2
  · have : i = (cuts most f at_ n).length := by omega
    rw [this, h2]
    exact Int.le_refl _
set_option maxRecDepth 100000 in
set_option maxHeartbeats 8000000 in
theorem covers_law (at_ n o : Int) (w : World) (h0 : -9223372036854775808 ≤ at_ ∧ at_ < 9223372036854775808) (h1 : -9223372036854775808 ≤ n ∧ n < 9223372036854775808) (ho : -9223372036854775808 ≤ o ∧ o < 9223372036854775808) : Calls Try.prog 7 #[.int .i64 at_, .int .i64 n, .int .i64 o] w fun e w' => e = .returned (.bool true) ∧ Below w.heap.size w w' := by
  by_cases hg : rgt at_ n 0 = 0 ∧ ord o = true
  · obtain ⟨r1, r2, r3⟩ := rgt_ok hg.1
    have hoo : 0 ≤ o ∧ o ≤ 8 := by simpa [ord] using hg.2
    obtain ⟨o0, o1⟩ := hoo
    have HG := Lib.hid hg
    have HC := Lib.hid (cuts_stt o 4096 at_ n (by omega) (by omega))
    have HB := Lib.hid (stt_bounds o at_ n 4096 (by omega) (by omega))
    clear hg h0 h1 ho
    have hmp : 0 < (cuts o 4096 at_ n).length := by
      rw [show (4096 : Nat) = 4095 + 1 from rfl, cuts_succ, if_neg (by omega)]
      simp
    go_enter Try.func7, Try.ntmps7
    go_wp2_with fail
    refine (cut_any at_ n o _ HG.out.1 HG.out.2 r1 r2 r3).mono ?_
    rintro e w1 ⟨v, rfl, hv, hb1⟩
    rcases hv.cases (by omega) with ⟨hz, _⟩ | ⟨_, b, oo, cap, rfl, hcl, hcm, hcell⟩
    · omega
    have hlen : (cuts o 4096 at_ n).length ≤ 9223372036854775807 := by unfold maxLen at hcm; omega
    generalize hL : cuts o 4096 at_ n = L at *
    have HL := Lib.hid hL
    clear hL
    go_wp2_with fail
    refine (awake_any _).mono ?_
    rintro e w2 ⟨rfl, hb2⟩
    have hc2 : ∀ j u, (blks L)[j]? = some u → w2.cell? ⟨b, oo + j, none⟩ = some u := fun j u h => cell_keep hb2 (hcell j u h)
    have HCC := Lib.hid hc2
    clear hc2 hcell hv
    have hk0 : ((L.length : Int) == 0) = false := by rw [beq_eq_false_iff_ne]; omega
    go_wp2_with fail
    go_loopw [8, 9, 10] (fun s8 s9 s10 wr => ∃ i c : Nat, i ≤ L.length ∧ s10 = .int .i64 i ∧ s8 = .int .i64 (stt o at_ (at_ + n) i) ∧ s9 = .int .i64 c ∧ RowKit.Hid (Ran o at_ (at_ + n) i c) ∧ c ≤ i ∧ ∃ q, wr = w2.drewN q) (fun _ _ s10 _ => L.length - (intOf s10).toNat)
    case atStart => exact ⟨0, 0, by omega, rfl, rfl, rfl, Lib.hid ⟨fun _ => rfl, fun h => by omega⟩, by omega, 0, rfl⟩
    case round =>
      obtain ⟨i, c, hi, rfl, rfl, rfl, HR, hci, q, rfl⟩ := hrel
      by_cases hlt : i < L.length
      · have HI := Lib.hid (HC.out.1 i hlt)
        have HF := Lib.hid (odr_facts o at_ (at_ + n) i o0 HI.out.2)
        have c1 := HCC.out _ _ (blks_get L i hlt).1
        have c3 := HCC.out _ _ (blks_get L i hlt).2
        rw [← Nat.add_assoc] at c3
        have hget := HI.out.1
        rw [hget] at c1 c3
        simp only at c1 c3
        clear hget
        have hx := HB.out i hi
        obtain ⟨hx0, hx1⟩ := hx
        obtain ⟨hk6, hkm, hk3, hke, hkw⟩ := HF.out
        obtain ⟨hk0, hk6⟩ := hk6
        have hxs : stt o at_ (at_ + n) (i + 1) = stt o at_ (at_ + n) i + two (odr o at_ (at_ + n) i) := rfl
        have HXS := Lib.hid hxs
        have htp := two_pos (odr o at_ (at_ + n) i)
        have hnx := (HB.out (i + 1) hlt).2
        rw [hxs] at hnx
        clear hxs
        generalize hX : stt o at_ (at_ + n) i = x at *
        generalize hK : odr o at_ (at_ + n) i = k at *
        have HX := Lib.hid hX
        have HK := Lib.hid hK
        clear hX hK
        have d1 : decide (k < 0) = false := decide_eq_false (by omega)
        have d2 : decide (o < k) = false := decide_eq_false (by omega)
        have w3 : IntKind.i64.wrap (k + 3) = k + 3 := by rw [IntKind.wrap_i64]; omega
        have d3 : (k.tmod 3 != 0) = false := by rw [Int.tmod_eq_emod_of_nonneg hk0]; exact hk3
        go_wp2_with fail
        go_quiet ((go_at_call 18; exact (reven_any x k _ (by omega) (by omega)).mono fun _ _ h => ⟨h.1, _, h.2.symm⟩))
        go_wp2_with fail
        by_cases hi0 : i = 0
        · subst hi0
          have e0 : decide (((0 : Nat) : Int) > 0) = false := rfl
          go_quiet (fail)
          go_wp2_with fail
          by_cases f0 : k + 3 ≤ o
          · have f1 : decide (k + 3 ≤ o) = true := decide_eq_true f0
            go_quiet (fail)
            go_wp2_with fail
            exact ⟨⟨1, 0, by omega, rfl, by rw [HXS.out], rfl, Lib.hid ran_zero, by omega, _, rfl⟩, by simp [intOf]; omega⟩
          · have f1 : decide (k + 3 ≤ o) = false := decide_eq_false f0
            go_quiet (fail)
            go_wp2_with fail
            exact ⟨⟨1, 0, by omega, rfl, by rw [HXS.out], rfl, Lib.hid ran_zero, by omega, _, rfl⟩, by simp [intOf]; omega⟩
        · have hp : i - 1 < L.length := by omega
          have c5 := HCC.out _ _ (blks_get L (i - 1) hp).2
          rw [← Nat.add_assoc, (HC.out.1 (i - 1) hp).1] at c5
          simp only at c5
          generalize hK2 : odr o at_ (at_ + n) (i - 1) = k2 at *
          have HK2 := Lib.hid hK2
          clear hK2
          have e0 : 0 < i := by omega
          have e2 : decide (0 < i) = true := decide_eq_true e0
          have e1 : IntKind.i64.wrap ((i : Int) - 1) = ((i - 1 : Nat) : Int) := by rw [IntKind.wrap_i64]; omega
          by_cases hkk : k = k2
          · subst hkk
            have e3 : (k == k) = true := beq_self_eq_true k
            go_quiet (fail)
            go_wp2_with fail
            by_cases f0 : k + 3 ≤ o
            · have f1 : decide (k + 3 ≤ o) = true := decide_eq_true f0
              by_cases g0 : 6 ≤ c
              · have g1 : decide (7 ≤ (c : Int) + 1) = true := decide_eq_true (by omega)
                obtain ⟨hr1, hr2⟩ := HR.out.2 e0
                have hp7 : i - 7 < L.length := by omega
                have w7 : IntKind.i64.wrap ((i : Int) - 7) = ((i - 7 : Nat) : Int) := by rw [IntKind.wrap_i64]; omega
                have c7 := HCC.out _ _ (blks_get L (i - 7) hp7).1
                rw [(HC.out.1 (i - 7) hp7).1] at c7
                simp only at c7
                have hx7 := HB.out (i - 7) (by omega)
                have hev : evn (stt o at_ (at_ + n) (i - 7)) (k + 3) = false := by
                  cases h : evn (stt o at_ (at_ + n) (i - 7)) (k + 3) with
                  | false => rfl
                  | true =>
                    refine (no_eight o at_ (at_ + n) k (i - 7) o0 ?_ ?_ f0 o1 h).elim
                    · rw [show i - 7 + 8 = i + 1 from by omega, HXS.out]; exact hnx
                    · intro d hd
                      rcases Nat.lt_or_ge d 7 with h7 | h7
                      · have := hr2 (6 - d) (by omega)
                        rw [show i - 1 - (6 - d) = i - 7 + d from by omega, HK2.out] at this
                        exact this
                      · rw [show i - 7 + d = i from by omega]
                        exact HK.out
                generalize stt o at_ (at_ + n) (i - 7) = x7 at c7 hx7 hev
                obtain ⟨hx70, hx71⟩ := hx7
                clear hr2
                go_quiet ((go_at_call 18; exact (reven_any x7 (k + 3) _ (by omega) (by omega)).mono fun _ _ h => ⟨h.1, _, h.2.symm⟩))
                go_wp2_with fail
                exact ⟨⟨i + 1, c + 1, hlt, rfl, by rw [HXS.out], rfl, Lib.hid (ran_same HR.out e0 (by rw [HK.out, HK2.out])), by omega, _, rfl⟩, by simp [intOf]; omega⟩
              · have g1 : decide (7 ≤ (c : Int) + 1) = false := decide_eq_false (by omega)
                go_quiet (fail)
                go_wp2_with fail
                exact ⟨⟨i + 1, c + 1, hlt, rfl, by rw [HXS.out], rfl, Lib.hid (ran_same HR.out e0 (by rw [HK.out, HK2.out])), by omega, _, rfl⟩, by simp [intOf]; omega⟩
            · have f1 : decide (k + 3 ≤ o) = false := decide_eq_false f0
              go_quiet (fail)
              go_wp2_with fail
              exact ⟨⟨i + 1, c + 1, hlt, rfl, by rw [HXS.out], rfl, Lib.hid (ran_same HR.out e0 (by rw [HK.out, HK2.out])), by omega, _, rfl⟩, by simp [intOf]; omega⟩
          · have e3 : (k == k2) = false := beq_eq_false_iff_ne.2 hkk
            go_quiet (fail)
            go_wp2_with fail
            by_cases f0 : k + 3 ≤ o
            · have f1 : decide (k + 3 ≤ o) = true := decide_eq_true f0
              go_quiet (fail)
              go_wp2_with fail
              exact ⟨⟨i + 1, 0, hlt, rfl, by rw [HXS.out], rfl, Lib.hid ran_zero, by omega, _, rfl⟩, by simp [intOf]; omega⟩
            · have f1 : decide (k + 3 ≤ o) = false := decide_eq_false f0
              go_quiet (fail)
              go_wp2_with fail
              exact ⟨⟨i + 1, 0, hlt, rfl, by rw [HXS.out], rfl, Lib.hid ran_zero, by omega, _, rfl⟩, by simp [intOf]; omega⟩
      · have hiL : i = L.length := by omega
        subst hiL
        rw [HC.out.2]
        have z1 : wrap64 (at_ + n) = at_ + n := wrap64_small _ (by omega) (by omega)
        have z2 : (at_ + n == at_ + n) = true := beq_self_eq_true _
        go_wp2_with fail
        refine bodyPost_ret (results_tmp rfl _ _ _) rfl ?_
        exact ⟨rfl, below_drewN (bnext hb1 hb2) q⟩
  · have hg' : rgt at_ n 0 ≠ 0 ∨ ord o = false := by
      by_cases h : rgt at_ n 0 = 0
      · exact Or.inr (Bool.eq_false_iff.2 fun h2 => hg ⟨h, h2⟩)
      · exact Or.inl h
    go_enter Try.func7, Try.ntmps7
    go_wp2_with fail
    refine (cut_no at_ n o _ hg' h0 h1).mono ?_
    rintro e w1 ⟨rfl, rfl⟩
    go_wp2_with fail
    refine (awake_any _).mono ?_
    rintro e w2 ⟨rfl, hb2⟩
    go_wp2_with fail
    refine (awake_any _).mono ?_
    rintro e w3 ⟨rfl, hb3⟩
    go_wp2_with fail
    refine (rright_any at_ n 0 _ h0.1 h0.2 h1.1 h1.2).mono ?_
    rintro e w4 ⟨rfl, rfl⟩
    by_cases hr : rgt at_ n 0 = 0
    · have h2 : ord o = false := hg'.resolve_left (fun h => h hr)
      have h3 : o < 0 ∨ 8 < o := by
        simp only [ord, Bool.and_eq_false_iff, decide_eq_false_iff_not] at h2
        omega
      rw [hr]
      by_cases ho0 : o < 0
      · have d0 : decide (o < 0) = true := decide_eq_true ho0
        go_wp2_with fail
        exact bodyPost_ret (results_tmp rfl _ _ _) rfl ⟨rfl, bnext hb2 hb3⟩
      · have d0 : decide (o < 0) = false := decide_eq_false ho0
        have d8 : decide (8 < o) = true := decide_eq_true (by omega)
        go_wp2_with fail
        exact bodyPost_ret (results_tmp rfl _ _ _) rfl ⟨rfl, bnext hb2 hb3⟩
    · have d1 : (rgt at_ n 0 != 0) = true := bne_iff_ne.2 hr
      go_wp2_with fail
      exact bodyPost_ret (results_tmp rfl _ _ _) rfl ⟨rfl, bnext hb2 hb3⟩

end Go.Proofs.Ytnpcpgjaffpnjaa
