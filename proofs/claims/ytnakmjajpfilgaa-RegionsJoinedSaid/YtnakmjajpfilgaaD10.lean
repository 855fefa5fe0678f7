/- Parts of the proofs of layer 20 (regions): contracts of its functions, and the laws' walks. -/
import Derived.Test.YtnakmjajpfilgaaProg
import Derived.WalkKit
import Derived.WalkSpells
import Derived.WalkLawsBesides
import Derived.BigQuiet
import Derived.Deep.QuietTactic
import Derived.Lib.Hide
import Derived.Deep.RegionHeld3
import Derived.Deep.DeepCutAuto
import Derived.KernelRfl
import Derived.Deep.OwnRows
import Derived.Laws.CopyOwn
import Derived.Laws.CopyRow
import Derived.StillTailTactics
import Derived.Deep.RegionLaw
import Derived.Test.YtnakmjajpfilgaaD9
namespace Go.Proofs.Ytnakmjajpfilgaa
open Go.RowKit
set_option linter.unusedVariables false
set_option linter.unusedSimpArgs false

def rdeln (f : Nat → Bool) (q : List R2) (a b : Int) : Int := if dele q a b = 0 then rcnt f a b else 0
def delf (f : Nat → Bool) (q : List R2) (a b : Int) (i : Nat) : Bool := f i && !(decide (dele q a b = 0) && inI a b i)
set_option maxRecDepth 100000 in
set_option maxHeartbeats 8000000 in
theorem rdel_any (g bi : Nat) (F : List Nat) (f : Nat → Bool) (q : List R2) (a b : Int) (w : World) (h : Rm w g bi F f q) (hq : q.length ≤ 100000) :
    Calls Try.prog 29 #[.pointer (some ⟨g, 0, none⟩), .int .i64 a, .int .i64 b] w fun e w' => e = .returned (.tuple #[.int .i64 (rdeln f q a b), .int .i64 (dele q a b)]) ∧ Chg F F w w' ∧ Rm w' g bi F (delf f q a b) q := by
  have HM := Lib.hid h
  clear h
  go_enter Try.func29, Try.ntmps29
  go_wp2_with fail
  refine (rwrong_any a b w).mono ?_
  rintro e w1 ⟨rfl, rfl⟩
  by_cases hw : wrg a b = 0
  · obtain ⟨r1, r2, r3⟩ := wrg_ok hw
    rw [hw]
    have HW := Lib.hid hw
    clear hw
    obtain ⟨aq, cqq, _, c1, hQ, _⟩ := HM.out.cells
    have HQ := Lib.hid hQ
    clear hQ
    go_wp2_with fail
    go_loopw [9] (fun s wr => ∃ i : Nat, i ≤ q.length ∧ s = .int .i64 (i : Nat) ∧ RowKit.Hid (∀ r ∈ q.take i, com r ⟨a, b⟩ ≤ 0) ∧ w = wr) (fun s _ => q.length - (intOf s).toNat)
    case atStart => exact ⟨0, Nat.zero_le _, rfl, Lib.hid (fun r h => by simp at h), rfl⟩
    case round =>
      obtain ⟨i, hi, rfl, HNO, rfl⟩ := hrel
      by_cases hil : i < q.length
      · obtain ⟨bq, cq', hv, hbl, hcell⟩ := HQ.out.read (ne_nil_of_lt hil)
        cases hv
        have hk := List.getElem?_eq_getElem hil
        generalize q[i] = r at hk
        obtain ⟨e0, e1⟩ := hcell i r hk
        have hiI : ((i : Nat) : Int) < ((q.length : Nat) : Int) := by omega
        have HKK := Lib.hid hk
        clear hcell hk
        obtain ⟨ra, rb⟩ := r
        dsimp only at e0 e1
        go_wp2_with fail
        go_loopw [10] (fun s wr => ∃ k : Int, a ≤ k ∧ k ≤ b ∧ s = .int .i64 k ∧ RowKit.Hid (∀ x, a ≤ x → x < k → ¬ (ra ≤ x ∧ x < rb)) ∧ w = wr) (fun s _ => (b - intOf s).toNat)
        case atStart => exact ⟨a, Int.le_refl _, r2, rfl, Lib.hid (fun x h1 h2 => by omega), rfl⟩
        case round =>
          obtain ⟨k, hk1, hk2, rfl, HX, rfl⟩ := hrel
          by_cases hkb : k < b
          · by_cases h1 : ra ≤ k
            · by_cases h2 : k < rb
              · have hbz : busy q ⟨a, b⟩ = true := (busy_iff _ _).2 ⟨⟨ra, rb⟩, List.mem_of_getElem? HKK.out, by
                  unfold com
                  show 0 < max 0 (min rb b - max ra a)
                  omega⟩
                have hd : dele q a b = 12 := by unfold dele; rw [if_pos HW.out, if_pos hbz]
                have HA : RowKit.Hid (dele q a b = 12 ∧ rdeln f q a b = 0 ∧ ∀ i, f i = delf f q a b i) := Lib.hid ⟨hd, by unfold rdeln; rw [if_neg (by omega)], fun i => by unfold delf; rw [hd]; simp⟩
                clear hbz hd
                go_wp2_with fail
                refine bodyPost_ret (results_tmp2 rfl _ _ _) rfl ⟨by rw [HA.out.1, HA.out.2.1]; rfl, Chg.refl _ _, HM.out.setrow HA.out.2.2⟩
              · have HN : RowKit.Hid (∀ x, a ≤ x → x < k + 1 → ¬ (ra ≤ x ∧ x < rb)) := Lib.hid (fun x x1 x2 x3 => by
                  by_cases hx : x = k
                  · omega
                  · exact HX.out x x1 (by omega) x3)
                clear HX
                have hw1 : IntKind.i64.wrap (k + 1) = k + 1 := by rw [IntKind.wrap_i64]; omega
                go_wp2_with fail
                exact ⟨⟨k + 1, by omega, by omega, rfl, HN, trivial⟩, by simp [intOf]; omega⟩
            · have HN : RowKit.Hid (∀ x, a ≤ x → x < k + 1 → ¬ (ra ≤ x ∧ x < rb)) := Lib.hid (fun x x1 x2 x3 => by
                by_cases hx : x = k
                · omega
                · exact HX.out x x1 (by omega) x3)
              clear HX
              have hw1 : IntKind.i64.wrap (k + 1) = k + 1 := by rw [IntKind.wrap_i64]; omega
              go_wp2_with fail
              exact ⟨⟨k + 1, by omega, by omega, rfl, HN, trivial⟩, by simp [intOf]; omega⟩
          · have hkb2 : k = b := by omega
            have HN : RowKit.Hid (∀ r ∈ q.take (i + 1), com r ⟨a, b⟩ ≤ 0) := Lib.hid (fun r h => by
              rw [take_succ' q i _ HKK.out] at h
              rcases List.mem_append.1 h with h | h
              · exact HNO.out r h
              · simp only [List.mem_singleton] at h
                subst h
                unfold com
                show max 0 (min rb b - max ra a) ≤ 0
                have := HX.out (max ra a) (by omega)
                rw [hkb2] at this
                omega)
            clear HX
            go_wp2_with fail
            exact ⟨⟨i + 1, hil, by simp, HN, trivial⟩, by simp [intOf]; omega⟩
      · have hil2 : i = q.length := by omega
        have hnb : ¬ busy q ⟨a, b⟩ = true := fun h => by
          obtain ⟨r, h1, h2⟩ := (busy_iff _ _).1 h
          have := HNO.out r (by rw [hil2, List.take_length]; exact h1)
          omega
        have hd : dele q a b = 0 := by unfold dele; rw [if_pos HW.out, if_neg hnb]
        have HA : RowKit.Hid (dele q a b = 0 ∧ rdeln f q a b = rcnt f a b ∧ ∀ i, (f i && !(inI a b i)) = delf f q a b i) := Lib.hid ⟨hd, by unfold rdeln; rw [if_pos hd], fun i => by unfold delf; rw [hd]; simp⟩
        clear hd hnb
        go_wp2_with fail
        refine (rcount_any g bi F f q a b w HM.out).mono ?_
        rintro e w6 ⟨rfl, rfl⟩
        have HRC : RowKit.Hid (rcnt f a b = (cq f a b 65536 : Nat)) := Lib.hid rfl
        generalize cq f a b 65536 = c at *
        go_wp2_with fail
        go_loopw [12] (fun s wx => ∃ k : Nat, a ≤ (k : Int) ∧ (k : Int) ≤ b ∧ s = .int .i64 (k : Nat) ∧ RowKit.Hid (Rm wx g bi F (fun i => f i && !(inI a k i)) q ∧ Chg F F w wx)) (fun s _ => (b - intOf s).toNat)
        case atStart => exact ⟨a.toNat, by omega, by omega, by rw [Int.toNat_of_nonneg r1], Lib.hid ⟨HM.out.setrow (fun i => by
          have : inI a ((a.toNat : Nat) : Int) i = false := by
            unfold inI
            rw [Int.toNat_of_nonneg r1]
            by_cases h : a ≤ (i : Int)
            · rw [decide_eq_false (show ¬ (i : Int) < a by omega), Bool.and_false]
            · rw [decide_eq_false h, Bool.false_and]
          rw [this, Bool.not_false, Bool.and_true]), Chg.refl _ _⟩⟩
        case round =>
          obtain ⟨k, hk1, hk2, rfl, HX⟩ := hrel
          by_cases hkb : (k : Int) < b
          · have hkb' : decide ((k : Int) < b) = true := decide_eq_true hkb
            obtain ⟨aqx, cqx, x0, _, _, xc⟩ := HX.out.1.cells
            have xk := xc k (by omega)
            have xf := HX.out.1.frozen k
            have hk6 : ((k : Nat) : Int) < 65536 := by omega
            have hk7 : k < 65536 := by omega
            obtain ⟨z1, z2⟩ := HX.out.1.setf k false
            have HZ : RowKit.Hid (Rm (wr.setCell ⟨bi, k, none⟩ (.bool false)) g bi F (fun i => f i && !(inI a ((k + 1 : Nat) : Int) i)) q ∧ Chg F F w (wr.setCell ⟨bi, k, none⟩ (.bool false))) := Lib.hid ⟨z2.setrow (fun i => by
              unfold inI
              by_cases hik : i = k
              · subst hik
                rw [if_pos rfl, decide_eq_true hk1, decide_eq_true (show (i : Int) < ((i + 1 : Nat) : Int) by omega)]
                simp
              · rw [if_neg hik]
                congr 3
                rw [Bool.eq_iff_iff, decide_eq_true_eq, decide_eq_true_eq]
                omega), HX.out.2.trans z1⟩
            clear xc z1 z2 HX
            go_wp2_with fail
            exact ⟨⟨k + 1, by omega, by omega, by simp, HZ⟩, by simp [intOf]; omega⟩
          · have hkb' : decide ((k : Int) < b) = false := decide_eq_false hkb
            have hkb2 : (k : Int) = b := by omega
            have HZ : RowKit.Hid (Rm wr g bi F (delf f q a b) q) := Lib.hid (HX.out.1.setrow (fun i => by rw [hkb2]; exact HA.out.2.2 i))
            clear hkb2
            go_wp2_with fail
            refine bodyPost_ret (results_tmp2 rfl _ _ _) rfl ⟨by rw [HA.out.1, HA.out.2.1, HRC.out]; rfl, HX.out.2, HZ.out⟩
  · have hd : dele q a b = 3 := by unfold dele; rw [if_neg hw]
    have HA : RowKit.Hid (dele q a b = 3 ∧ rdeln f q a b = 0 ∧ ∀ i, f i = delf f q a b i) := Lib.hid ⟨hd, by unfold rdeln; rw [if_neg (by omega)], fun i => by unfold delf; rw [hd]; simp⟩
    rw [wrg_no hw]
    clear hw hd
    go_wp2_with fail
    refine bodyPost_ret (results_tmp2 rfl _ _ _) rfl ⟨by rw [HA.out.1, HA.out.2.1]; rfl, Chg.refl _ _, HM.out.setrow HA.out.2.2⟩
theorem regs_succ (f : Nat → Bool) (n : Nat) : regs f (n + 1) = if f n = true then (if 0 < n ∧ f (n - 1) = true then lastB (regs f n) ((n : Int) + 1) else regs f n ++ [⟨n, n + 1⟩]) else regs f n := rfl
set_option maxRecDepth 100000 in
set_option maxHeartbeats 8000000 in
theorem rall_any (g bi : Nat) (F : List Nat) (f : Nat → Bool) (q : List R2) (w : World) (h : Rm w g bi F f q) :
    Calls Try.prog 12 #[.pointer (some ⟨g, 0, none⟩)] w fun e w' => ∃ v, e = .returned v ∧ Told w' v (regs f 65536) ∧ Chg [] (vblk v) w w' := by
  obtain ⟨aq, cqq, c0, _, _, hcell⟩ := h.cells
  have HC := Lib.hid hcell
  clear h hcell
  obtain ⟨i0, hi0, hz0, hz1, hz2⟩ := info_parts (show (Try.prog.info? 30).map (fun i => (i.zero, i.size, i.bytes)) = some (some (.agg #[.int .i64 0, .int .i64 0]), 2, 16) by kernel_rfl)
  go_enter Try.func12, Try.ntmps12
  go_wp2_with fail
  go_loopw [3, 4] (fun o s wr => ∃ (i : Nat) (lo : List R2), i ≤ 65536 ∧ s = .int .i64 (i : Nat) ∧ lo.length ≤ i ∧ RowKit.Hid (lo = regs f i ∧ Told wr o lo ∧ Chg [] (vblk o) w wr)) (fun _ s _ => 65536 - (intOf s).toNat)
  case atStart => exact ⟨0, [], Nat.zero_le _, rfl, Nat.le_refl _, Lib.hid ⟨rfl, Sq.nil _ _ _, by rw [vblk_nil]; exact Chg.refl _ _⟩⟩
  case round =>
    obtain ⟨i, lo, hi, rfl, hlo, HL⟩ := hrel
    have hbr : Below w.heap.size w wr := HL.out.2.2.below (fun b hb => by simp at hb) (Nat.le_refl _)
    have c0r := cell_keep hbr c0
    by_cases hlt : i < 65536
    · have hI : decide ((i : Int) < 65536) = true := decide_eq_true (by omega)
      have hI2 : ((i : Nat) : Int) < 65536 := by omega
      have e0 := cell_keep hbr (HC.out i hlt)
      have HS := Lib.hid (regs_succ f i)
      by_cases hf : f i = true
      · have happ : ∀ (hno : ¬ (0 < i ∧ f (i - 1) = true)), lo ++ [⟨(i : Int), (i : Int) + 1⟩] = regs f (i + 1) := fun hno => by rw [HS.out, if_pos hf, if_neg hno, HL.out.1]
        have HAP := Lib.hid happ
        have HF := Lib.hid hf
        rw [hf] at e0
        clear happ hf
        have hwi : IntKind.i64.wrap ((i : Int) + 1) = (i : Int) + 1 := by rw [IntKind.wrap_i64]; omega
        by_cases h0 : 0 < i
        · have h0I : decide ((0 : Int) < (i : Int)) = true := decide_eq_true (by omega)
          obtain ⟨p, hpi⟩ : ∃ p, i = p + 1 := ⟨i - 1, by omega⟩
          have e1 := cell_keep hbr (HC.out p (by omega))
          have hw1 : IntKind.i64.wrap ((i : Int) - 1) = (p : Nat) := by rw [IntKind.wrap_i64]; omega
          have hpI : ((p : Nat) : Int) < 65536 := by omega
          have hpN : p < 65536 := by omega
          have HPI := Lib.hid hpi
          clear hpi
          by_cases hp : f p = true
          · rw [hp] at e1
            obtain ⟨l, r, hlr, hrb⟩ := (regs_facts f i).2.2.1 h0 (by rw [HPI.out, Nat.add_sub_cancel]; exact hp)
            rw [← HL.out.1] at hlr
            have HN : RowKit.Hid (lastB lo ((i : Int) + 1) = regs f (i + 1)) := Lib.hid (by rw [HS.out, if_pos HF.out, if_pos ⟨h0, by rw [HPI.out, Nat.add_sub_cancel]; exact hp⟩, HL.out.1])
            have hlr2 : lo[l.length]? = some r := by rw [hlr]; simp
            have hset : (rc lo).set (l.length * 2 + 1) (.int .i64 ((i : Int) + 1)) = rc (lastB lo ((i : Int) + 1)) := by
              have h1 := flat_set R2.cs 2 R2.cs_length 1 (.int .i64 ((i : Int) + 1)) (by decide) r { r with b := (i : Int) + 1 } rfl lo l.length hlr2
              have h2 : lastB lo ((i : Int) + 1) = lo.set l.length { r with b := (i : Int) + 1 } := by
                rw [hlr, lastB_append, List.set_append_right _ _ (Nat.le_refl _), Nat.sub_self, List.set_cons_zero]
              rw [h2]
              exact h1
            have hlen : lo.length = l.length + 1 := by rw [hlr]; simp
            have hllen : (lastB lo ((i : Int) + 1)).length = lo.length := by unfold lastB; rw [List.length_modify]
            rcases Sq.cases HL.out.2.1 with ⟨_, hz⟩ | ⟨b, cap, rfl, _, _, hbl, hcl, hfz⟩
            · omega
            · obtain ⟨_, x1⟩ := rc_get lo l.length r hlr2
              have y1 := hcl _ _ x1
              have z1 := hfz (l.length * 2 + 1)
              have hst := Sq.stored HL.out.2.1 (l.length * 2 + 1) (.int .i64 ((i : Int) + 1))
              rw [hset] at hst
              have HST : RowKit.Hid (Told (wr.setCell ⟨b, l.length * 2 + 1, none⟩ (.int .i64 ((i : Int) + 1))) (.slice (some ⟨b, 0, none⟩) lo.length cap) (lastB lo ((i : Int) + 1)) ∧ Chg [] (vblk (.slice (some ⟨b, 0, none⟩) lo.length cap)) w (wr.setCell ⟨b, l.length * 2 + 1, none⟩ (.int .i64 ((i : Int) + 1)))) := Lib.hid ⟨by unfold Told; rw [hllen]; exact hst, HL.out.2.2.setCell _ _ _ (by simp [vblk_some])⟩
              obtain ⟨M, hM⟩ : ∃ M, l.length = M := ⟨_, rfl⟩
              obtain ⟨N1, hN1⟩ : ∃ N1, lo.length = N1 := ⟨_, rfl⟩
              rw [hM] at y1 z1 HST hlen
              have hw4 : IntKind.i64.wrap ((N1 : Int) - 1) = (M : Nat) := by rw [IntKind.wrap_i64]; omega
              have hMN : ((M : Nat) : Int) < ((N1 : Nat) : Int) := by omega
              have hMN2 : M < N1 := by omega
              have HLEN := Lib.hid (And.intro hN1 hllen)
              rw [hN1] at HST ⊢
              clear hp hlr hrb hlr2 hset hlen hllen hcl hfz hst hM hN1 HL HS x1 HAP
              go_wp2_with fail
              exact ⟨⟨i + 1, lastB lo ((i : Int) + 1), hlt, by simp, by rw [HLEN.out.2]; omega, Lib.hid ⟨HN.out, HST.out⟩⟩, by simp [intOf]; omega⟩
          · have HN := Lib.hid (HAP.out (fun e => hp (by have := e.2; rw [HPI.out, Nat.add_sub_cancel] at this; exact this)))
            rw [Bool.not_eq_true] at hp
            rw [hp] at e1
            clear HAP hp
            obtain ⟨ao1, cap1, rfl, _, _⟩ := HL.out.2.1.slice
            have hA : Below wr.heap.size wr (wr.alloc (.cells #[.int .i64 (i : Nat), .int .i64 ((i : Nat) + 1)] 30)) := (Below.refl _ wr).alloc (Nat.le_refl _) _
            have hown := HL.out.2.1.below hA
            have hnew := news_alloc wr #[.int .i64 (i : Nat), .int .i64 ((i : Nat) + 1)] 30
            have HC1 := Lib.hid (HL.out.2.2.trans (Chg.of_below hA))
            clear hA HL HS
            go_wp2_with (at_builtin; refine wpList_append_any _ rfl (.tmp 37) (.tmp 42) 28 rfl 30 i0 (.agg #[.int .i64 0, .int .i64 0]) 2 16 Try.underlying28 hi0 hz0 hz1 hz2 rfl (by decide) (.slice ao1 lo.length cap1) lo.length (rc lo) rfl hown (some ⟨wr.heap.size, 0, none⟩) 1 1 (rc [⟨(i : Nat), (i : Nat) + 1⟩]) rfl (fun h => by cases h) rfl (fun a ha => by cases ha; rw [rc_one]; exact hnew) (rc_onecell _) (by unfold maxLen; omega) (by omega) ?_; intro v2 w7 hown2 hgr2)
            exact ⟨⟨i + 1, lo ++ [⟨(i : Nat), (i : Nat) + 1⟩], hlt, by simp, by rw [List.length_append]; simp; omega, Lib.hid ⟨HN.out, Told.one_more hown2, HC1.out.trans hgr2⟩⟩, by simp [intOf]; omega⟩
        · have h0I : decide ((0 : Int) < (i : Int)) = false := decide_eq_false (by omega)
          have HN := Lib.hid (HAP.out (fun e => h0 e.1))
          clear HAP
          obtain ⟨ao1, cap1, rfl, _, _⟩ := HL.out.2.1.slice
          have hA : Below wr.heap.size wr (wr.alloc (.cells #[.int .i64 (i : Nat), .int .i64 ((i : Nat) + 1)] 30)) := (Below.refl _ wr).alloc (Nat.le_refl _) _
          have hown := HL.out.2.1.below hA
          have hnew := news_alloc wr #[.int .i64 (i : Nat), .int .i64 ((i : Nat) + 1)] 30
          have HC1 := Lib.hid (HL.out.2.2.trans (Chg.of_below hA))
          clear hA HL HS
          go_wp2_with (at_builtin; refine wpList_append_any _ rfl (.tmp 37) (.tmp 42) 28 rfl 30 i0 (.agg #[.int .i64 0, .int .i64 0]) 2 16 Try.underlying28 hi0 hz0 hz1 hz2 rfl (by decide) (.slice ao1 lo.length cap1) lo.length (rc lo) rfl hown (some ⟨wr.heap.size, 0, none⟩) 1 1 (rc [⟨(i : Nat), (i : Nat) + 1⟩]) rfl (fun h => by cases h) rfl (fun a ha => by cases ha; rw [rc_one]; exact hnew) (rc_onecell _) (by unfold maxLen; omega) (by omega) ?_; intro v2 w7 hown2 hgr2)
          exact ⟨⟨i + 1, lo ++ [⟨(i : Nat), (i : Nat) + 1⟩], hlt, by simp, by rw [List.length_append]; simp; omega, Lib.hid ⟨HN.out, Told.one_more hown2, HC1.out.trans hgr2⟩⟩, by simp [intOf]; omega⟩
      · have HN : RowKit.Hid (lo = regs f (i + 1) ∧ Told wr u3 lo ∧ Chg [] (vblk u3) w wr) := Lib.hid ⟨by rw [HS.out, if_neg hf]; exact HL.out.1, HL.out.2⟩
        rw [Bool.not_eq_true] at hf
        rw [hf] at e0
        clear HL HS hf
        go_wp2_with fail
        exact ⟨⟨i + 1, lo, hlt, by simp, by omega, HN⟩, by simp [intOf]; omega⟩
    · have hiN : i = 65536 := by omega
      have HN : RowKit.Hid (Told wr u3 (regs f 65536) ∧ Chg [] (vblk u3) w wr) := Lib.hid (by
        have := HL.out
        rw [hiN] at this
        rw [← this.1]
        exact this.2)
      subst hiN
      go_wp2_with fail
      exact bodyPost_ret (results_tmp rfl _ _ _) rfl ⟨u3, rfl, HN.out⟩
set_option maxRecDepth 100000 in
set_option maxHeartbeats 4000000 in
theorem same_any (v1 v2 : Value) (l1 l2 : List R2) (w : World) (h1 : Told w v1 l1) (h2 : Told w v2 l2) (hm : l1.length ≤ 100000) :
    Calls Try.prog 17 #[v1, v2] w fun e w' => e = .returned (.bool (decide (l1 = l2))) ∧ Below w.heap.size w w' := by
  obtain ⟨ao1, cap1, rfl, _, _⟩ := Sq.slice h1
  obtain ⟨ao2, cap2, rfl, _, _⟩ := Sq.slice h2
  by_cases hl : l1.length = l2.length
  · go_enter Try.func17, Try.ntmps17
    have hl2 : (((l1.length : Nat) : Int) != ((l2.length : Nat) : Int)) = false := by rw [bne_eq_false_iff_eq]; omega
    go_wp2_with fail
    go_loopw [5] (fun s wr => ∃ i : Nat, i ≤ l1.length ∧ s = .int .i64 (i : Nat) ∧ (∀ j, j < i → l1[j]? = l2[j]?) ∧ Below w.heap.size w wr) (fun s _ => l1.length - (intOf s).toNat)
    case atStart => exact ⟨0, Nat.zero_le _, rfl, fun j hj => by omega, Below.refl _ _⟩
    case round =>
      obtain ⟨i, hi, rfl, hsame, hbr⟩ := hrel
      by_cases hlt : i < l1.length
      · obtain ⟨b, c, hv, hb, hc⟩ := h1.read (ne_nil_of_lt hlt)
        cases hv
        obtain ⟨b2, c2, hv, hb2, hc2⟩ := h2.read (ne_nil_of_lt (show i < l2.length by omega))
        cases hv
        have hk := List.getElem?_eq_getElem hlt
        generalize l1[i] = k at hk
        have hk2 := List.getElem?_eq_getElem (show i < l2.length by omega)
        generalize l2[i] = k2 at hk2
        have e0 := cell_keep hbr (hc i k hk).1
        have e1 := cell_keep hbr (hc i k hk).2
        have f0 := cell_keep hbr (hc2 i k2 hk2).1
        have f1 := cell_keep hbr (hc2 i k2 hk2).2
        clear hc hc2
        have hlt2 : ((i : Nat) : Int) < ((l2.length : Nat) : Int) := by omega
        have hlt1 : ((i : Nat) : Int) < ((l1.length : Nat) : Int) := by omega
        have HS := Lib.hid hsame
        have HB := Lib.hid hbr
        clear hsame hbr
        cases k
        cases k2
        rename_i ks kp ks2 kp2
        dsimp only at e0 e1 f0 f1
        by_cases hs : ks = ks2
        · subst hs
          have hs1 : (ks != ks) = false := by simp
          by_cases hp : kp = kp2
          · subst hp
            have hs2 : (kp != kp) = false := by simp
            go_wp2_with fail
            go_quiet (fail)
            go_wp2_with fail
            refine ⟨⟨i + 1, hlt, by simp, fun j hj => ?_, below_drewN HB.out _⟩, by simp [intOf]; omega⟩
            rcases Nat.lt_succ_iff_lt_or_eq.1 hj with h | rfl
            · exact HS.out j h
            · rw [hk, hk2]
          · have hs2 : (kp != kp2) = true := by rw [bne_iff_ne]; exact hp
            go_wp2_with fail
            go_quiet (fail)
            go_wp2_with fail
            have hne : l1 ≠ l2 := fun e => by
              rw [e, hk2] at hk
              simp at hk
              exact hp hk.symm
            refine bodyPost_ret (results_tmp rfl _ _ _) rfl ⟨by rw [decide_eq_false hne]; rfl, below_drewN HB.out _⟩
        · have hs1 : (ks != ks2) = true := by rw [bne_iff_ne]; exact hs
          go_wp2_with fail
          go_quiet (fail)
          go_wp2_with fail
          have hne : l1 ≠ l2 := fun e => by
            rw [e, hk2] at hk
            simp at hk
            exact hs hk.1.symm
          refine bodyPost_ret (results_tmp rfl _ _ _) rfl ⟨by rw [decide_eq_false hne]; rfl, below_drewN HB.out _⟩
      · go_wp2_with fail
        have he : l1 = l2 := by
          apply List.ext_getElem?
          intro j
          by_cases hj : j < l1.length
          · exact hsame j (by omega)
          · rw [List.getElem?_eq_none (by omega), List.getElem?_eq_none (by omega)]
        exact bodyPost_ret (results_tmp rfl _ _ _) rfl ⟨by rw [decide_eq_true he]; rfl, hbr⟩
  · go_enter Try.func17, Try.ntmps17
    have hl2 : (((l1.length : Nat) : Int) != ((l2.length : Nat) : Int)) = true := by rw [bne_iff_ne]; omega
    go_wp2_with fail
    exact bodyPost_ret (results_tmp rfl _ _ _) rfl ⟨by rw [decide_eq_false (fun e => hl (by rw [e]))]; rfl, Below.refl _ _⟩

end Go.Proofs.Ytnakmjajpfilgaa
