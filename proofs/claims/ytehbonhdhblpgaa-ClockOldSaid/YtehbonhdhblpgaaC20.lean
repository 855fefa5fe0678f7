/- Parts of the proofs of layer 25 (clock): contracts of its functions, and the laws' walks. -/
import Derived.Test.YtehbonhdhblpgaaProg
import Derived.WalkKit
import Derived.WalkSpells
import Derived.WalkLawsBesides
import Derived.BigQuiet
import Derived.Deep.QuietTactic
import Derived.Lib.Hide
import Derived.Deep.RegionHeld3
import Derived.Deep.DeepCutAuto
import Derived.KernelRfl
import Derived.Deep.OwnRows
import Derived.Laws.CopyOwn
import Derived.Laws.CopyRow
import Derived.StillTailTactics
import Derived.Deep.RegionLaw
import Derived.Test.YtehbonhdhblpgaaC19
namespace Go.Proofs.Ytehbonhdhblpgaa
open Go.RowKit
set_option linter.unusedVariables false
set_option linter.unusedSimpArgs false

/-- Both clocks, apart from each other, behind the same calls. -/
def Two (w : World) (g : Nat) (F1 : List Nat) (g2 : Nat) (F2 : List Nat) (ks L : List K) (h : Nat) : Prop := Clk w g F1 ks ∧ RC w g2 F2 L h ∧ Sep F1 F2 ∧ Rel ks L h
theorem Two.drew {w : World} {g g2 h : Nat} {F1 F2 : List Nat} {ks L : List K} (t : Two w g F1 g2 F2 ks L h) : Two w.drew g F1 g2 F2 ks L h := t
theorem Two.drewN {w : World} {g g2 h : Nat} {F1 F2 : List Nat} {ks L : List K} (t : Two w g F1 g2 F2 ks L h) (n : Nat) : Two (w.drewN n) g F1 g2 F2 ks L h := t
theorem Two.below {w w' : World} {g g2 h : Nat} {F1 F2 : List Nat} {ks L : List K} (t : Two w g F1 g2 F2 ks L h) (hb : Below w.heap.size w w') : Two w' g F1 g2 F2 ks L h := ⟨t.1.below hb, t.2.1.below hb, t.2.2⟩
theorem Two.chg {w w' : World} {g g2 h : Nat} {F1 F2 G G' : List Nat} {ks L : List K} (t : Two w g F1 g2 F2 ks L h) (hc : Chg G G' w w') (hs : Sep (F1 ++ F2) G) : Two w' g F1 g2 F2 ks L h :=
  ⟨t.1.chg hc (fun b hb => hs b (by simp [hb])), t.2.1.chg hc (fun b hb => hs b (by simp [hb])), t.2.2⟩
theorem Two.lt {w : World} {g g2 h : Nat} {F1 F2 : List Nat} {ks L : List K} (t : Two w g F1 g2 F2 ks L h) : ∀ b, b ∈ F1 ++ F2 → b < w.heap.size := fun b hb => by
  rcases List.mem_append.1 hb with hb | hb
  · exact t.1.lt b hb
  · exact t.2.1.lt b hb
theorem Two.step {w w1 : World} {g g2 h : Nat} {F1 F2 F1' : List Nat} {ks L ks' : List K} (t : Two w g F1 g2 F2 ks L h) (hc : Chg F1 F1' w w1) (hk : Clk w1 g F1' ks') : RC w1 g2 F2 L h ∧ Sep F1' F2 :=
  ⟨t.2.1.chg hc t.2.2.1.symm, hc.sep t.2.2.1 t.2.1.lt⟩
theorem Chg.both {F1 F1' F2 F2' : List Nat} {w w1 w2 : World} (h : Chg F1 F1' w w1) (k : Chg F2 F2' w1 w2) : Chg (F1 ++ F2) (F1' ++ F2') w w2 := by
  obtain ⟨h1, h2, h3, h4, h5, h6⟩ := h
  obtain ⟨k1, k2, k3, k4, k5, k6⟩ := k
  refine ⟨k1.trans h1, k2.trans h2, k3.trans h3, Nat.le_trans h4 k4, fun x hx hf => ?_, fun x hx => ?_⟩
  · exact (k5 x (Nat.lt_of_lt_of_le hx h4) fun hm => hf (by simp [hm])).trans (h5 x hx fun hm => hf (by simp [hm]))
  · rcases List.mem_append.1 hx with hx | hx
    · rcases h6 x hx with h | h
      · exact .inl (by simp [h])
      · exact .inr h
    · rcases k6 x hx with h | h
      · exact .inl (by simp [h])
      · exact .inr (Nat.le_trans h4 h)
theorem Two.step2 {w w1 w2 : World} {g g2 h h' : Nat} {F1 F2 F1' F2' : List Nat} {ks L ks' L' : List K} (t : Two w g F1 g2 F2 ks L h) (hc : Chg F1 F1' w w1) (hk : Clk w1 g F1' ks') (hc2 : Chg F2 F2' w1 w2) (hr : RC w2 g2 F2' L' h') (hrel : Rel ks' L' h') :
    Two w2 g F1' g2 F2' ks' L' h' ∧ Chg (F1 ++ F2) (F1' ++ F2') w w2 := by
  have hs := (t.step hc hk).2
  refine ⟨⟨hk.chg hc2 hs, hr, (hc2.sep hs.symm hk.lt).symm, hrel⟩, hc.both hc2⟩
theorem RC.hand {w : World} {g : Nat} {F : List Nat} {L : List K} {h : Nat} (r : RC w g F L h) : h < L.length ∨ (L = [] ∧ h = 0) := by
  obtain ⟨_, _, _, _, _, h4⟩ := r
  exact h4
theorem Rel.sweep {ks L L' : List K} {h h' : Nat} (r : Rel ks L h) {n : Int} (hr : rot L' h' = sweepK (rot L h) n) (hh : h' < L'.length ∨ (L' = [] ∧ h' = 0)) : Rel (sweepK ks n) L' h' := ⟨by rw [r.1]; exact hr.symm, nodup_sweep r.2.1 n, hh⟩
/-- Ages from 0 to m. -/
def AgeOk (l : List K) (m : Nat) : Prop := ∀ k ∈ l, 0 ≤ k.a ∧ k.a ≤ (m : Int)
def AgeUp (l l' : List K) : Prop := ∀ m : Nat, m ≤ 1000 → AgeOk l m → AgeOk l' (m + 1)
theorem AgeUp.add (l : List K) (x : S) : AgeUp l (addK l x) := fun m _ h k hk => by
  unfold addK at hk
  split at hk
  · have := h k hk; omega
  · rcases List.mem_append.1 hk with hk | hk
    · have := h k hk; omega
    · simp at hk; subst hk; constructor
      · exact Int.le_refl _
      · show (0 : Int) ≤ _; omega
theorem AgeUp.del (l : List K) (x : S) : AgeUp l (delK l x) := fun m _ h k hk => by
  rw [delK_eq] at hk
  have := h k ((delR_sub l x).subset hk)
  omega
theorem AgeUp.touch (l : List K) (x : S) : AgeUp l (touchK l x) := fun m _ h k hk => by
  rw [touchK_eq] at hk
  obtain ⟨k', h1, _, h3⟩ := touchR_mem l x k hk
  have := h k' h1
  omega
theorem swK_age {k : K} {m : Nat} (hm : m ≤ 1000) (h : 0 ≤ k.a ∧ k.a ≤ (m : Int)) : (swK k).a = (if k.t then 0 else k.a + 1) := by
  unfold swK
  split
  · rfl
  · show wrap64 (k.a + 1) = _
    unfold wrap64
    omega
theorem AgeUp.sweep (l : List K) (n : Int) : AgeUp l (sweepK l n) := fun m hm h k hk => by
  unfold sweepK at hk
  rcases List.mem_append.1 hk with hk | hk
  · have := h k (List.mem_of_mem_drop hk); omega
  · obtain ⟨k', h1, rfl⟩ := List.mem_map.1 hk
    have h2 := h k' (List.mem_of_mem_take h1)
    rw [swK_age hm h2]
    split <;> omega
/-- Behind a call of both. -/
def DoPost (w : World) (g : Nat) (F1 : List Nat) (g2 : Nat) (F2 : List Nat) (ks : List K) (w' : World) : Prop :=
  ∃ F1' F2' ks' L' h', Two w' g F1' g2 F2' ks' L' h' ∧ Chg (F1 ++ F2) (F1' ++ F2') w w' ∧ ks'.length ≤ ks.length + 1 ∧ AgeUp ks ks'
theorem DoPost.of {w0 w w1 w2 : World} {g g2 h h' : Nat} {F1 F2 F1' F2' : List Nat} {ks L ks' L' : List K} (t : Two w g F1 g2 F2 ks L h) (hc : Chg F1 F1' w w1) (hk : Clk w1 g F1' ks') (hc2 : Chg F2 F2' w1 w2) (hr : RC w2 g2 F2' L' h') (hrel : Rel ks' L' h') (hn : ks'.length ≤ ks.length + 1) (ha : AgeUp ks ks')
    (hb : Below w0.heap.size w0 w) : DoPost w0 g F1 g2 F2 ks w2 := by
  obtain ⟨h1, h2⟩ := t.step2 hc hk hc2 hr hrel
  exact ⟨F1', F2', ks', L', h', h1, (Chg.of_below hb).trans h2, hn, ha⟩
theorem act_chg {B : Nat} {k0 c1 c2 c3 c4 : Int} {W w' : World} {F F' : List Nat} (h : (W.cell? ⟨B, 0, none⟩ = some (.int .i64 k0) ∧ W.cell? ⟨B, 1, none⟩ = some (.int .i64 c1) ∧ W.cell? ⟨B, 2, none⟩ = some (.int .i64 c2) ∧ W.cell? ⟨B, 3, none⟩ = some (.int .i64 c3) ∧ W.cell? ⟨B, 4, none⟩ = some (.int .i64 c4))) (hc : Chg F F' W w') (hB : B ∉ F) : (w'.cell? ⟨B, 0, none⟩ = some (.int .i64 k0) ∧ w'.cell? ⟨B, 1, none⟩ = some (.int .i64 c1) ∧ w'.cell? ⟨B, 2, none⟩ = some (.int .i64 c2) ∧ w'.cell? ⟨B, 3, none⟩ = some (.int .i64 c3) ∧ w'.cell? ⟨B, 4, none⟩ = some (.int .i64 c4)) :=
  ⟨hc.cell h.1 hB, hc.cell h.2.1 hB, hc.cell h.2.2.1 hB, hc.cell h.2.2.2.1 hB, hc.cell h.2.2.2.2 hB⟩
set_option maxRecDepth 100000 in
set_option maxHeartbeats 8000000 in
theorem do_any (g : Nat) (F1 : List Nat) (g2 : Nat) (F2 : List Nat) (ks L : List K) (h : Nat) (k0 c1 c2 c3 c4 : Int) (w : World) (t : Two w g F1 g2 F2 ks L h) (hm : ks.length ≤ 400) :
    Calls Try.prog 27 #[.pointer (some ⟨g, 0, none⟩), .pointer (some ⟨g2, 0, none⟩), .agg #[.int .i64 k0, .int .i64 c1, .int .i64 c2, .int .i64 c3, .int .i64 c4]] w fun e w' => e = .returned (.bool true) ∧ DoPost w g F1 g2 F2 ks w' := by
  have hbx : Below w.heap.size w (w.alloc (.cells #[.int .i64 k0, .int .i64 c1, .int .i64 c2, .int .i64 c3, .int .i64 c4] 31)) := (Below.refl _ w).alloc (Nat.le_refl _) _
  have HB1 := Lib.hid (show w.heap.size ∉ F1 from fun hb => Nat.lt_irrefl _ (t.1.lt _ hb))
  have HB2 := Lib.hid (show w.heap.size ∉ F2 from fun hb => Nat.lt_irrefl _ (t.2.1.lt _ hb))
  have HL := Lib.hid (show L.length ≤ 400 by have := t.2.2.2.length; omega)
  have HT := Lib.hid (t.below hbx).drew
  have HBX := Lib.hid hbx.drew
  clear t hbx
  by_cases h01 : k0 = 0 ∨ k0 = 1
  · go_enter Try.func27, Try.ntmps27
    rcases h01 with rfl | rfl
    ·
      have HA := Lib.hid (HT.out.2.2.2.acode ⟨c1, c2⟩)
      generalize hq : acode ks ⟨c1, c2⟩ = q at HA
      have HQ := Lib.hid hq
      clear hq
      go_wp2_with fail
      go_region_held3 (fun w' => (w'.cell? ⟨w.heap.size, 0, none⟩ = some (.int .i64 0) ∧ w'.cell? ⟨w.heap.size, 1, none⟩ = some (.int .i64 c1) ∧ w'.cell? ⟨w.heap.size, 2, none⟩ = some (.int .i64 c2) ∧ w'.cell? ⟨w.heap.size, 3, none⟩ = some (.int .i64 c3) ∧ w'.cell? ⟨w.heap.size, 4, none⟩ = some (.int .i64 c4))) (first | exact act_chg (by assumption) hca HB1.out | exact act_chg (by assumption) hcb HB2.out | go_keep) (first
      | (go_at_call 11; refine (add_any g F1 ks ⟨c1, c2⟩ _ HT.out.1 (by omega)).mono ?_; rintro e wa ⟨rfl, F1', hca, hka⟩; rw [HQ.out])
      | (go_at_call 29; refine (radd_any g2 F2 L h ⟨c1, c2⟩ _ (HT.out.step hca hka).1 (by have := HL.out; omega)).mono ?_; rintro e wb ⟨rfl, F2', hcb, hrb⟩; rw [← HA.out]))
      go_wp2_with fail
      go_ret
      exact ⟨rfl, DoPost.of HT.out hca hka hcb hrb (HT.out.2.2.2.add ⟨c1, c2⟩) (by exact addK_length _ _) (AgeUp.add _ _) HBX.out⟩

    ·
      have HA := Lib.hid (HT.out.2.2.2.acode ⟨c1, c2⟩)
      generalize hq : acode ks ⟨c1, c2⟩ = q at HA
      have HQ := Lib.hid hq
      clear hq
      go_wp2_with fail
      go_region_held3 (fun w' => (w'.cell? ⟨w.heap.size, 0, none⟩ = some (.int .i64 1) ∧ w'.cell? ⟨w.heap.size, 1, none⟩ = some (.int .i64 c1) ∧ w'.cell? ⟨w.heap.size, 2, none⟩ = some (.int .i64 c2) ∧ w'.cell? ⟨w.heap.size, 3, none⟩ = some (.int .i64 c3) ∧ w'.cell? ⟨w.heap.size, 4, none⟩ = some (.int .i64 c4))) (first | exact act_chg (by assumption) hca HB1.out | exact act_chg (by assumption) hcb HB2.out | go_keep) (first
      | (go_at_call 11; refine (add_any g F1 ks ⟨c1, c2⟩ _ HT.out.1 (by omega)).mono ?_; rintro e wa ⟨rfl, F1', hca, hka⟩; rw [HQ.out])
      | (go_at_call 29; refine (radd_any g2 F2 L h ⟨c1, c2⟩ _ (HT.out.step hca hka).1 (by have := HL.out; omega)).mono ?_; rintro e wb ⟨rfl, F2', hcb, hrb⟩; rw [← HA.out]))
      go_wp2_with fail
      go_ret
      exact ⟨rfl, DoPost.of HT.out hca hka hcb hrb (HT.out.2.2.2.add ⟨c1, c2⟩) (by exact addK_length _ _) (AgeUp.add _ _) HBX.out⟩

  · have d0 : (k0 == 0) = false := by rw [beq_eq_false_iff_ne]; omega
    have d1 : (k0 == 1) = false := by rw [beq_eq_false_iff_ne]; omega
    by_cases h2 : k0 = 2
    · subst h2
      go_enter Try.func27, Try.ntmps27
      have HA := Lib.hid (HT.out.2.2.2.ecode ⟨c1, c2⟩)
      generalize hq : ecode ks ⟨c1, c2⟩ = q at HA
      have HQ := Lib.hid hq
      clear hq
      go_wp2_with fail
      go_region_held3 (fun w' => (w'.cell? ⟨w.heap.size, 0, none⟩ = some (.int .i64 2) ∧ w'.cell? ⟨w.heap.size, 1, none⟩ = some (.int .i64 c1) ∧ w'.cell? ⟨w.heap.size, 2, none⟩ = some (.int .i64 c2) ∧ w'.cell? ⟨w.heap.size, 3, none⟩ = some (.int .i64 c3) ∧ w'.cell? ⟨w.heap.size, 4, none⟩ = some (.int .i64 c4))) (first | exact act_chg (by assumption) hca HB1.out | exact act_chg (by assumption) hcb HB2.out | go_keep) (first
      | (go_at_call 12; refine (del_any g F1 ks ⟨c1, c2⟩ _ HT.out.1 (by omega)).mono ?_; rintro e wa ⟨rfl, F1', hca, hka⟩; rw [HQ.out])
      | (go_at_call 30; refine (rdel_any g2 F2 L h ⟨c1, c2⟩ _ (HT.out.step hca hka).1 (by have := HL.out; omega)).mono ?_; rintro e wb ⟨rfl, F2', hcb, hrb⟩; rw [← HA.out]))
      go_wp2_with fail
      go_ret
      exact ⟨rfl, DoPost.of HT.out hca hka hcb hrb (HT.out.2.2.2.del ⟨c1, c2⟩) (by have := delK_length ks ⟨c1, c2⟩; omega) (AgeUp.del _ _) HBX.out⟩

    · have d2 : (k0 == 2) = false := by rw [beq_eq_false_iff_ne]; omega
      by_cases h34 : k0 = 3 ∨ k0 = 4
      · go_enter Try.func27, Try.ntmps27
        rcases h34 with rfl | rfl
        ·
          have HA := Lib.hid (HT.out.2.2.2.ecode ⟨c1, c2⟩)
          generalize hq : ecode ks ⟨c1, c2⟩ = q at HA
          have HQ := Lib.hid hq
          clear hq
          go_wp2_with fail
          go_region_held3 (fun w' => (w'.cell? ⟨w.heap.size, 0, none⟩ = some (.int .i64 3) ∧ w'.cell? ⟨w.heap.size, 1, none⟩ = some (.int .i64 c1) ∧ w'.cell? ⟨w.heap.size, 2, none⟩ = some (.int .i64 c2) ∧ w'.cell? ⟨w.heap.size, 3, none⟩ = some (.int .i64 c3) ∧ w'.cell? ⟨w.heap.size, 4, none⟩ = some (.int .i64 c4))) (first | exact act_chg (by assumption) hca HB1.out | exact act_chg (by assumption) hcb HB2.out | go_keep) (first
          | (go_at_call 13; refine (touch_any g F1 ks ⟨c1, c2⟩ _ HT.out.1 (by omega)).mono ?_; rintro e wa ⟨rfl, hca, hka⟩; rw [HQ.out])
          | (go_at_call 31; refine (rtouch_any g2 F2 L h ⟨c1, c2⟩ _ (HT.out.step hca hka).1 (by have := HL.out; omega)).mono ?_; rintro e wb ⟨rfl, hcb, hrb⟩; rw [← HA.out]))
          go_wp2_with fail
          go_ret
          exact ⟨rfl, DoPost.of HT.out hca hka hcb hrb (HT.out.2.2.2.touch ⟨c1, c2⟩) (by rw [touchK_length]; omega) (AgeUp.touch _ _) HBX.out⟩

        ·
          have HA := Lib.hid (HT.out.2.2.2.ecode ⟨c1, c2⟩)
          generalize hq : ecode ks ⟨c1, c2⟩ = q at HA
          have HQ := Lib.hid hq
          clear hq
          go_wp2_with fail
          go_region_held3 (fun w' => (w'.cell? ⟨w.heap.size, 0, none⟩ = some (.int .i64 4) ∧ w'.cell? ⟨w.heap.size, 1, none⟩ = some (.int .i64 c1) ∧ w'.cell? ⟨w.heap.size, 2, none⟩ = some (.int .i64 c2) ∧ w'.cell? ⟨w.heap.size, 3, none⟩ = some (.int .i64 c3) ∧ w'.cell? ⟨w.heap.size, 4, none⟩ = some (.int .i64 c4))) (first | exact act_chg (by assumption) hca HB1.out | exact act_chg (by assumption) hcb HB2.out | go_keep) (first
          | (go_at_call 13; refine (touch_any g F1 ks ⟨c1, c2⟩ _ HT.out.1 (by omega)).mono ?_; rintro e wa ⟨rfl, hca, hka⟩; rw [HQ.out])
          | (go_at_call 31; refine (rtouch_any g2 F2 L h ⟨c1, c2⟩ _ (HT.out.step hca hka).1 (by have := HL.out; omega)).mono ?_; rintro e wb ⟨rfl, hcb, hrb⟩; rw [← HA.out]))
          go_wp2_with fail
          go_ret
          exact ⟨rfl, DoPost.of HT.out hca hka hcb hrb (HT.out.2.2.2.touch ⟨c1, c2⟩) (by rw [touchK_length]; omega) (AgeUp.touch _ _) HBX.out⟩

      · have d3 : (k0 == 3) = false := by rw [beq_eq_false_iff_ne]; omega
        have d4 : (k0 == 4) = false := by rw [beq_eq_false_iff_ne]; omega
        go_enter Try.func27, Try.ntmps27
        go_wp2_with fail
        go_region_held3 (fun w' => (w'.cell? ⟨w.heap.size, 0, none⟩ = some (.int .i64 k0) ∧ w'.cell? ⟨w.heap.size, 1, none⟩ = some (.int .i64 c1) ∧ w'.cell? ⟨w.heap.size, 2, none⟩ = some (.int .i64 c2) ∧ w'.cell? ⟨w.heap.size, 3, none⟩ = some (.int .i64 c3) ∧ w'.cell? ⟨w.heap.size, 4, none⟩ = some (.int .i64 c4))) (first | exact act_chg (by assumption) hca HB1.out | exact act_chg (by assumption) hcb HB2.out | exact act_chg (by assumption) (Chg.of_below (F := []) hbs) (by simp) | go_keep) (first
          | (go_at_call 14; refine (sweep_any g F1 ks c3 c4 _ HT.out.1 (by omega)).mono ?_; rintro e wa ⟨v1, F1', rfl, hv1, hka, hcv, hsv⟩; have hca := hcv.sub (fun b hb => List.mem_append_left _ hb))
          | (go_at_call 32; refine (rsweep_any g2 F2 L h c3 c4 _ (HT.out.step hca hka).1 (by have := HL.out; omega)).mono ?_; rintro e wb ⟨v2, L', h', rfl, hv2, hrb, hrot, hll, hcw, hsw⟩; have hcb := hcw.sub (fun b hb => List.mem_append_left _ hb))
          | (go_at_call 20; refine (same_any v1 v2 (sweepT ks c3 c4) (sweepT ks c3 c4) _ (hv1.chg hcb (fun b hb => (hcv.sep HT.out.2.2.1 HT.out.2.1.lt) b (by simp [hb]))) (by rw [HT.out.2.2.2.1]; exact hv2) (by have := sweepT_length ks c3 c4; omega)).mono ?_; rintro e wc ⟨rfl, hbs⟩))
        go_wp2_with fail
        go_ret
        exact ⟨rfl, DoPost.of HT.out hca hka (hcb.trans (Chg.of_below hbs)) (hrb.below hbs) (HT.out.2.2.2.sweep hrot hrb.hand) (by rw [sweepK_length]; omega) (AgeUp.sweep _ _) HBX.out⟩

end Go.Proofs.Ytehbonhdhblpgaa
