/- Parts of the proofs of layer 20 (regions): contracts of its functions, and the laws' walks. -/
import Derived.Test.YtnakmjajpfilgaaProg
import Derived.WalkKit
import Derived.WalkSpells
import Derived.WalkLawsBesides
import Derived.BigQuiet
import Derived.Deep.QuietTactic
import Derived.Lib.Hide
import Derived.Deep.RegionHeld3
import Derived.Deep.DeepCutAuto
import Derived.KernelRfl
import Derived.Deep.OwnRows
import Derived.Laws.CopyOwn
import Derived.Laws.CopyRow
import Derived.StillTailTactics
import Derived.Deep.RegionLaw
import Derived.Test.YtnakmjajpfilgaaD12
namespace Go.Proofs.Ytnakmjajpfilgaa
open Go.RowKit
set_option linter.unusedVariables false
set_option linter.unusedSimpArgs false

/-- A slice of calls that came in: its elements' fields. -/
def Acts (w : World) (ao : Option Addr) (len : Nat) (z : Nat → Nat → Int) : Prop :=
  ∀ j, j < len → ∃ b o, ao = some ⟨b, o, none⟩ ∧ w.cell? ⟨b, o + j * 3, none⟩ = some (.int .i64 (z j 0)) ∧ w.cell? ⟨b, o + j * 3 + 1, none⟩ = some (.int .i64 (z j 1)) ∧ w.cell? ⟨b, o + j * 3 + 2, none⟩ = some (.int .i64 (z j 2))
theorem Acts.below {w w' : World} {ao : Option Addr} {len : Nat} {z : Nat → Nat → Int} (h : Acts w ao len z) (hb : Below w.heap.size w w') : Acts w' ao len z := fun j hj => by
  obtain ⟨b, o, e, e0, e1, e2⟩ := h j hj
  exact ⟨b, o, e, cell_keep hb e0, cell_keep hb e1, cell_keep hb e2⟩
/-- Both maps behind some calls, their blocks no older than B. -/
def Made (B : Nat) (W : World) (g : Nat) (F1 : List Nat) (l q : List R2) (g2 bi : Nat) (F2 : List Nat) (f : Nat → Bool) (q2 : List R2) (m : Nat) : Prop := Two W g F1 l q g2 bi F2 f q2 ∧ Rel l q f q2 ∧ q.length ≤ m ∧ ∀ b, b ∈ F1 ++ F2 → B ≤ b
theorem Two.below {w w' : World} {g : Nat} {F1 : List Nat} {l q : List R2} {g2 bi : Nat} {F2 : List Nat} {f : Nat → Bool} {q2 : List R2} (t : Two w g F1 l q g2 bi F2 f q2) (hb : Below w.heap.size w w') : Two w' g F1 l q g2 bi F2 f q2 := ⟨t.1.below hb, t.2.1.below hb, t.2.2⟩
theorem Made.below {B : Nat} {w w' : World} {g : Nat} {F1 : List Nat} {l q : List R2} {g2 bi : Nat} {F2 : List Nat} {f : Nat → Bool} {q2 : List R2} {m : Nat} (t : Made B w g F1 l q g2 bi F2 f q2 m) (hb : Below w.heap.size w w') : Made B w' g F1 l q g2 bi F2 f q2 m := ⟨t.1.below hb, t.2⟩
theorem Made.more {B : Nat} {w : World} {g : Nat} {F1 : List Nat} {l q : List R2} {g2 bi : Nat} {F2 : List Nat} {f : Nat → Bool} {q2 : List R2} {m m' : Nat} (t : Made B w g F1 l q g2 bi F2 f q2 m) (h : m ≤ m') : Made B w g F1 l q g2 bi F2 f q2 m' := ⟨t.1, t.2.1, Nat.le_trans t.2.2.1 h, t.2.2.2⟩
theorem Made.step {B : Nat} {w w' : World} {g : Nat} {F1 : List Nat} {l q : List R2} {g2 bi : Nat} {F2 : List Nat} {f : Nat → Bool} {q2 : List R2} {m : Nat} {a b : Int} (t : Made B w g F1 l q g2 bi F2 f q2 m) (hB : B ≤ w.heap.size) (p : DoPost w (F1 ++ F2) g g2 bi l q f a b w') :
    ∃ F1' F2' l' q' f' q2', Made B w' g F1' l' q' g2 bi F2' f' q2' (m + 1) ∧ Below B w w' := by
  obtain ⟨F1', F2', l', q', f', q2', h1, h2, h3, h4, _⟩ := p
  exact ⟨F1', F2', l', q', f', q2', ⟨h1, h3, by have := t.2.2.1; omega, h2.ge t.2.2.2 hB⟩, h2.below t.2.2.2 hB⟩
set_option maxRecDepth 100000 in
set_option maxHeartbeats 8000000 in
theorem made_any (ao : Option Addr) (len cap : Nat) (z : Nat → Nat → Int) (w : World) (hlc : len ≤ cap) (hcm : cap ≤ maxLen) (hA : Acts w ao len z) :
    Calls Try.prog 8 #[.slice ao len cap] w fun e w' => ∃ g g2 bi F1 F2 l q f q2, e = .returned (.tuple #[.pointer (some ⟨g, 0, none⟩), .pointer (some ⟨g2, 0, none⟩), .bool true]) ∧ Made w.heap.size w' g F1 l q g2 bi F2 f q2 25 ∧ Below w.heap.size w w' := by
  have hlen : len ≤ 9223372036854775807 := by unfold maxLen at hcm; omega
  go_enter Try.func8, Try.ntmps8
  go_wp2_with fail
  refine (new_any w).mono ?_
  rintro e w1 ⟨rfl, hb1, hk1⟩
  go_wp2_with fail
  refine (rnew_any w1).mono ?_
  rintro e w2 ⟨g2, bi, F2, rfl, hb2, hr2, hF2⟩
  have hlt := hk1.lt
  have HI : RowKit.Hid (Made w.heap.size w2 w.heap.size [w.heap.size] [] [] g2 bi F2 (fun _ => false) [] 0 ∧ Below w.heap.size w w2) := Lib.hid (by
    refine ⟨⟨⟨hk1.below hb2, hr2, fun b hb hm => ?_⟩, Rel.nil, Nat.le_refl _, fun b hb => ?_⟩, hb1.trans (hb2.mono hb1.size)⟩
    · have := hlt b hb
      have := hF2 b hm
      omega
    · have := hb1.size
      rcases List.mem_append.1 hb with hb | hb
      · simp at hb; omega
      · have := hF2 b hb; omega)
  have HA := Lib.hid hA
  clear hA hb1 hk1 hb2 hr2 hlt hF2
  generalize hg : w.heap.size = g at HI ⊢
  have HG := Lib.hid hg
  clear hg
  go_wp2_with fail
  go_loopw [7] (fun s wr => ∃ i F1 F2 l q f q2, i ≤ len ∧ i ≤ 25 ∧ s = .int .i64 (i : Nat) ∧ RowKit.Hid (Made g wr g F1 l q g2 bi F2 f q2 i ∧ Below g w wr)) (fun s _ => len - (intOf s).toNat)
  case atStart => exact ⟨0, _, _, _, _, _, _, Nat.zero_le _, Nat.zero_le _, rfl, HI⟩
  case round =>
    obtain ⟨i, F1, F2, l, q, f, q2, hi, hi80, rfl, HM⟩ := hrel
    by_cases hlt : i < len ∧ i < 25
    · obtain ⟨hlt, h80⟩ := hlt
      obtain ⟨lb, lo, rfl, e0, e1, e2⟩ := (HA.out.below (by rw [HG.out]; exact HM.out.2)) i hlt
      go_wp2_with fail
      refine (do_any g F1 l q g2 bi F2 f q2 _ _ _ wr HM.out.1.1 HM.out.1.2.1 (by have := HM.out.1.2.2.1; omega)).mono ?_
      rintro e w5 ⟨rfl, hp⟩
      obtain ⟨F1', F2', l', q', f', q2', hm', hb'⟩ := HM.out.1.step (by rw [← HG.out]; exact HM.out.2.size) hp
      have HN := Lib.hid (And.intro hm' (HM.out.2.trans hb'))
      clear hp hm' hb' e0 e1 e2
      go_wp2_with fail
      exact ⟨⟨i + 1, F1', F2', l', q', f', q2', hlt, h80, by simp, HN⟩, by simp [intOf]; omega⟩
    · have HMM : RowKit.Hid (Made g wr g F1 l q g2 bi F2 f q2 25 ∧ Below g w wr) := Lib.hid ⟨HM.out.1.more hi80, HM.out.2⟩
      by_cases hil : i < len
      · have h6 : decide ((i : Int) < 25) = false := decide_eq_false (by omega)
        have h5 : decide ((i : Int) < (len : Int)) = true := decide_eq_true (by omega)
        clear hlt
        go_wp2_with fail
        refine bodyPost_ret (by simp [results, Try.results8, go_sem]) rfl ⟨g, g2, bi, F1, F2, l, q, f, q2, rfl, ?_⟩
        rw [HG.out]
        exact HMM.out
      · have h5 : decide ((i : Int) < (len : Int)) = false := decide_eq_false (by omega)
        clear hlt
        go_wp2_with fail
        refine bodyPost_ret (by simp [results, Try.results8, go_sem]) rfl ⟨g, g2, bi, F1, F2, l, q, f, q2, rfl, ?_⟩
        rw [HG.out]
        exact HMM.out
theorem good_pairs {hi : Int} : ∀ {l : List R2} {lo : Int}, Good lo hi l → ∀ (i : Nat) (r s : R2), l[i]? = some r → l[i + 1]? = some s → r.b < s.a
  | [], _, _, i, r, s, h, _ => by simp at h
  | t :: l, lo, g, 0, r, s, h, k => by
    simp only [List.getElem?_cons_zero, Option.some.injEq, List.getElem?_cons_succ] at h k
    subst h
    cases l with
    | nil => simp at k
    | cons u l =>
      simp only [List.getElem?_cons_zero, Option.some.injEq] at k
      subst k
      have := g.2.2.2.1
      omega
  | t :: l, lo, g, i + 1, r, s, h, k => good_pairs g.2.2.2 i r s (by simpa using h) (by simpa using k)
def tot : List R2 → Int
  | [] => 0
  | r :: l => (r.b - r.a) + tot l
theorem tot_append (l m : List R2) : tot (l ++ m) = tot l + tot m := by
  induction l with
  | nil => exact (Int.zero_add _).symm
  | cons r l ih =>
    rw [List.cons_append]
    show r.b - r.a + tot (l ++ m) = r.b - r.a + tot l + tot m
    rw [ih]; omega
theorem tot_cnt : ∀ {l : List R2} {lo : Int}, Good lo 65536 l → 0 ≤ lo → tot l = cntL l ⟨0, 65536⟩
  | [], _, _, _ => rfl
  | r :: l, lo, g, h => by
    rw [cntL_cons, ← tot_cnt g.2.2.2 (by have := g.1; have := g.2.1; omega)]
    show r.b - r.a + tot l = com r ⟨0, 65536⟩ + tot l
    have := g.1
    have := g.2.1
    have := g.2.2.1
    unfold com
    show r.b - r.a + tot l = max 0 (min r.b 65536 - max r.a 0) + tot l
    omega
theorem tot_take_le : ∀ {l : List R2} {lo : Int}, Good lo 65536 l → ∀ i, 0 ≤ tot (l.take i) ∧ tot (l.take i) ≤ max 0 (65536 - lo)
  | [], _, _, i => by simp [tot]; omega
  | r :: l, lo, g, 0 => by simp [tot]; omega
  | r :: l, lo, g, i + 1 => by
    have := tot_take_le g.2.2.2 i
    rw [List.take_succ_cons]
    show 0 ≤ r.b - r.a + tot (l.take i) ∧ r.b - r.a + tot (l.take i) ≤ _
    have := g.1
    have := g.2.1
    have := g.2.2.1
    omega
set_option maxRecDepth 100000 in
set_option maxHeartbeats 8000000 in
theorem joined_law (ao : Option Addr) (len cap : Nat) (z : Nat → Nat → Int) (w : World) (hlc : len ≤ cap) (hcm : cap ≤ maxLen) (hA : Acts w ao len z) :
    Calls Try.prog 3 #[.slice ao len cap] w fun e w' => e = .returned (.bool true) ∧ Below w.heap.size w w' := by
  go_enter Try.func3, Try.ntmps3
  go_wp2_with fail
  refine (made_any ao len cap z w hlc hcm hA).mono ?_
  rintro e w1 ⟨g, g2, bi, F1, F2, l, q, f, q2, rfl, hm1, hb1⟩
  have HM1 := Lib.hid (And.intro hm1 hb1)
  clear hm1 hb1 hA
  go_wp2_with fail
  refine (awake_any w1).mono ?_
  rintro e w2 ⟨rfl, hb2⟩
  have HM2 := Lib.hid (And.intro (HM1.out.1.below hb2) (HM1.out.2.trans (hb2.mono HM1.out.2.size)))
  clear hb2 HM1
  have hll := HM2.out.1.2.1.lenl
  go_wp2_with fail
  refine (all_any g F1 l q w2 HM2.out.1.1.1 (by omega)).mono ?_
  rintro e w3 ⟨v, rfl, hv, hc3⟩
  have hb3 := hc3.below (C := w2.heap.size) (fun b hb => by simp at hb) (Nat.le_refl _)
  have HM3 := Lib.hid (And.intro (HM2.out.1.below hb3) (HM2.out.2.trans (hb3.mono HM2.out.2.size)))
  have HV := Lib.hid hv
  obtain ⟨av, cv, rfl, _, _⟩ := hv.slice
  clear hb3 hc3 hv HM2
  go_wp2_with fail
  go_loopw [7, 8] (fun n s wr => ∃ (i k : Nat), i ≤ l.length ∧ s = .int .i64 (i : Nat) ∧ n = .int .i64 (tot (l.take i)) ∧ wr = w3.drewN k) (fun _ s _ => l.length - (intOf s).toNat)
  case atStart => exact ⟨0, 0, Nat.zero_le _, rfl, rfl, rfl⟩
  case round =>
    obtain ⟨i, nn, hi, rfl, rfl, rfl⟩ := hrel
    by_cases hil : i < l.length
    · obtain ⟨bl, cl', hvv, hbl, hcell⟩ := HV.out.read (ne_nil_of_lt hil)
      cases hvv
      have hk := List.getElem?_eq_getElem hil
      generalize l[i] = r at hk
      obtain ⟨e0, e1⟩ := hcell i r hk
      have hiI : ((i : Nat) : Int) < ((l.length : Nat) : Int) := by omega
      obtain ⟨x1, x2, x3⟩ := HM3.out.1.2.1.1.mem r (List.mem_of_getElem? hk)
      have HT : RowKit.Hid (tot (l.take (i + 1)) = tot (l.take i) + (r.b - r.a)) := Lib.hid (by
        rw [take_succ' l i r hk, tot_append]
        show _ + (r.b - r.a + 0) = _
        omega)
      obtain ⟨t1, t2⟩ := tot_take_le HM3.out.1.2.1.1 i
      have HK := Lib.hid hk
      have HCELL := Lib.hid hcell
      clear hcell hk
      generalize tot (l.take i) = tt at *
      have y1 : decide (r.a < 0) = false := decide_eq_false (by omega)
      have y2 : decide (r.b ≤ r.a) = false := decide_eq_false (by omega)
      have y3 : decide (65536 < r.b) = false := decide_eq_false (by omega)
      have w1 : IntKind.i64.wrap (r.b - r.a) = r.b - r.a := by rw [IntKind.wrap_i64]; omega
      have w2 : IntKind.i64.wrap (tt + (r.b - r.a)) = tt + (r.b - r.a) := by rw [IntKind.wrap_i64]; omega
      by_cases h0 : 0 < i
      · have h0I : decide ((0 : Int) < (i : Int)) = true := decide_eq_true (by omega)
        obtain ⟨p, hp⟩ : ∃ p, i = p + 1 := ⟨i - 1, by omega⟩
        have hpk := List.getElem?_eq_getElem (show p < l.length by omega)
        generalize l[p]'(by omega) = s at hpk
        have hlt := good_pairs HM3.out.1.2.1.1 p s r hpk (by rw [← hp]; exact HK.out)
        obtain ⟨_, e3⟩ := HCELL.out p s hpk
        have wp : IntKind.i64.wrap ((i : Int) - 1) = (p : Nat) := by rw [IntKind.wrap_i64]; omega
        have hpI : ((p : Nat) : Int) < ((l.length : Nat) : Int) := by omega
        have y4 : decide (r.a ≤ s.b) = false := decide_eq_false (by omega)
        clear hp hpk hlt
        go_wp2_with fail
        go_quiet (fail)
        go_wp2_with fail
        go_quiet (fail)
        go_wp2_with fail
        exact ⟨⟨i + 1, _, hil, by simp, by rw [HT.out], rfl⟩, by simp [intOf]; omega⟩
      · have h0I : decide ((0 : Int) < (i : Int)) = false := decide_eq_false (by omega)
        go_wp2_with fail
        go_quiet (fail)
        go_wp2_with fail
        go_quiet (fail)
        go_wp2_with fail
        exact ⟨⟨i + 1, _, hil, by simp, by rw [HT.out], rfl⟩, by simp [intOf]; omega⟩
    · have hil2 : i = l.length := by omega
      have HT : RowKit.Hid (tot (l.take i) = cntL l ⟨0, 65536⟩) := Lib.hid (by rw [hil2, List.take_length]; exact tot_cnt HM3.out.1.2.1.1 (Int.le_refl 0))
      rw [HT.out]
      clear hil2
      go_wp2_with fail
      refine (count_any g F1 l q 0 65536 _ (HM3.out.1.1.1.drewN nn) (by omega) HM3.out.1.2.1.1.inr (by omega)).mono ?_
      rintro e w5 ⟨rfl, hb5⟩
      have HB5 := Lib.hid ((below_drewN HM3.out.2 nn).trans (hb5.mono HM3.out.2.size))
      clear hb5
      generalize cntL l ⟨0, 65536⟩ = c at *
      go_wp2_with fail
      exact bodyPost_ret (results_tmp rfl _ _ _) rfl ⟨by simp, HB5.out⟩

end Go.Proofs.Ytnakmjajpfilgaa
