/- Parts of the proofs of layer 20 (regions): contracts of its functions, and the laws' walks. -/
import Derived.Test.YtnakmjajpfilgaaProg
import Derived.WalkKit
import Derived.WalkSpells
import Derived.WalkLawsBesides
import Derived.BigQuiet
import Derived.Deep.QuietTactic
import Derived.Lib.Hide
import Derived.Deep.RegionHeld3
import Derived.Deep.DeepCutAuto
import Derived.KernelRfl
import Derived.Deep.OwnRows
import Derived.Laws.CopyOwn
import Derived.Laws.CopyRow
import Derived.StillTailTactics
import Derived.Deep.RegionLaw
import Derived.Test.YtnakmjajpfilgaaSl
import Derived.Test.YtnakmjajpfilgaaSq
import Derived.Test.YtnakmjajpfilgaaD1
namespace Go.Proofs.Ytnakmjajpfilgaa
open Go.RowKit
set_option linter.unusedVariables false
set_option linter.unusedSimpArgs false

theorem ret_int {k : IntKind} {a b : Int} (h : a = b) : Ending.returned (.int k a) = .returned (.int k b) := by rw [h]
def R2.cs (k : R2) : List Value := [.int .i64 k.a, .int .i64 k.b]
theorem R2.cs_length (k : R2) : k.cs.length = 2 := rfl
/-- The cells of stretches in a row. -/
def rc (l : List R2) : List Value := l.flatMap R2.cs
theorem rc_length (l : List R2) : (rc l).length = l.length * 2 := flat_length _ 2 R2.cs_length l
theorem rc_get (l : List R2) (i : Nat) (k : R2) (h : l[i]? = some k) : (rc l)[i * 2]? = some (.int .i64 k.a) ∧ (rc l)[i * 2 + 1]? = some (.int .i64 k.b) := by
  have h0 := flat_get R2.cs 2 R2.cs_length l i 0 (by decide)
  have h1 := flat_get R2.cs 2 R2.cs_length l i 1 (by decide)
  rw [h] at h0 h1
  exact ⟨h0, h1⟩
theorem rc_one (k : R2) : rc [k] = k.cs := by simp [rc]
theorem rc_append (a b : List R2) : rc (a ++ b) = rc a ++ rc b := by simp [rc]
theorem rc_onecell (l : List R2) : ∀ u ∈ rc l, u.oneCell' = true := by
  intro u hu
  obtain ⟨k, _, hk⟩ := List.mem_flatMap.1 hu
  simp only [R2.cs, List.mem_cons, List.not_mem_nil, or_false] at hk
  rcases hk with rfl | rfl <;> rfl
theorem news_alloc (w : World) (cs : Array Value) (e : TypeId) : ∀ j u, cs.toList[j]? = some u → (w.alloc (.cells cs e)).cell? ((⟨w.heap.size, 0, none⟩ : Addr).add j) = some u := by
  intro j u hj
  rw [Addr.add_lit, Nat.zero_add]
  simp only [World.cell?, Deep.blk_alloc_new]
  simpa using hj
theorem below_drewN {B : Nat} {a w : World} (h : Below B a w) (n : Nat) : Below B a (w.drewN n) := ⟨h.os, h.tape, h.output, h.size, h.block⟩
theorem below_drew {B : Nat} {a w : World} (h : Below B a w) : Below B a w.drew := ⟨h.os, h.tape, h.output, h.size, h.block⟩
theorem below_undrew {B : Nat} {w w' : World} (h : Below B w.drew w') : Below B w w' := ⟨h.os, h.tape, h.output, h.size, h.block⟩
theorem below2 {a b c : World} (h : Below a.heap.size a b) (k : Below b.heap.size b c) : Below a.heap.size a c := h.trans (k.mono h.size)
theorem take_succ' {α : Type} (l : List α) (i : Nat) (a : α) (h : l[i]? = some a) : l.take (i + 1) = l.take i ++ [a] := by rw [List.take_add_one, h]; rfl
theorem Chg.out {F F' : List Nat} {w w' : World} {g : Nat} (h : Chg F F' w w') (hf : g ∉ F) (hg : g < w.heap.size) : g ∉ F' := fun hm => by
  rcases h.2.2.2.2.2 g hm with h | h
  · exact hf h
  · omega
/-- Stretches told: a row of their own. -/
def Told (w : World) (v : Value) (l : List R2) : Prop := Sq w 30 2 v l.length (rc l)
theorem Told.lt {w : World} {v : Value} {l : List R2} (h : Told w v l) : ∀ b, b ∈ vblk v → b < w.heap.size := Sq.lt h
theorem Told.below {w w' : World} {v : Value} {l : List R2} (h : Told w v l) (hb : Below w.heap.size w w') : Told w' v l := Sq.below h hb
theorem Told.chg {w w' : World} {v : Value} {l : List R2} {F F' : List Nat} (h : Told w v l) (hc : Chg F F' w w') (hs : Sep (vblk v) F) : Told w' v l := Sq.chg h hc hs
theorem Told.slice {w : World} {v : Value} {l : List R2} (h : Told w v l) : ∃ ao cap, v = .slice ao l.length cap ∧ l.length ≤ cap ∧ cap ≤ maxLen := Sq.slice h
theorem Told.read {w : World} {v : Value} {l : List R2} (h : Told w v l) (hl : l ≠ []) : ∃ b cap, v = .slice (some ⟨b, 0, none⟩) l.length cap ∧ b < w.heap.size ∧ ∀ i k, l[i]? = some k → w.cell? ⟨b, i * 2, none⟩ = some (.int .i64 k.a) ∧ w.cell? ⟨b, i * 2 + 1, none⟩ = some (.int .i64 k.b) := by
  rcases Sq.cases h with ⟨_, h0⟩ | ⟨b, cap, rfl, _, _, hb, hcell, _⟩
  · exact (hl (List.eq_nil_of_length_eq_zero h0)).elim
  · exact ⟨b, cap, rfl, hb, fun i k hk => ⟨hcell _ _ (rc_get l i k hk).1, hcell _ _ (rc_get l i k hk).2⟩⟩
theorem ne_nil_of_lt {α : Type} {l : List α} {i : Nat} (h : i < l.length) : l ≠ [] := fun e => by rw [e] at h; simp at h
/-- A stretch's array in a block of its own. -/
def Box (w : World) (T : Nat) (x : R2) : Prop := w.heap[T]? = some (.cells #[.int .i64 x.a, .int .i64 x.b] 30 (0, 0))
theorem Box.new (w : World) (x : R2) : Box (w.alloc (.cells #[.int .i64 x.a, .int .i64 x.b] 30)) w.heap.size x := heap_alloc_new w _
theorem Box.cells {w : World} {T : Nat} {x : R2} (h : Box w T x) : w.cell? ⟨T, 0, none⟩ = some (.int .i64 x.a) ∧ w.cell? ⟨T, 1, none⟩ = some (.int .i64 x.b) := ⟨cell_of_row w T 0 _ 30 _ h, cell_of_row w T 1 _ 30 _ h⟩
theorem Box.frozen {w : World} {T : Nat} {x : R2} (h : Box w T x) (j : Nat) : w.frozen? ⟨T, j, none⟩ = false := frozen_of_row w T j _ 30 h
theorem Box.lt {w : World} {T : Nat} {x : R2} (h : Box w T x) : T < w.heap.size := lt_of_block h
theorem Box.below {w w' : World} {T : Nat} {x : R2} (h : Box w T x) (hb : Below w.heap.size w w') : Box w' T x := (hb.block T h.lt).trans h
theorem Box.chg {w w' : World} {T : Nat} {x : R2} {F F' : List Nat} (h : Box w T x) (hc : Chg F F' w w') (hf : T ∉ F) : Box w' T x := (hc.block h.lt hf).trans h
/-- The program's map: its struct in block g, its footprint F, its regions, what is under way. -/
def Mp (w : World) (g : Nat) (F : List Nat) (l q : List R2) : Prop :=
  ∃ vl vq, F = g :: (vblk vl ++ vblk vq) ∧ g ∉ vblk vl ∧ g ∉ vblk vq ∧ Sep (vblk vl) (vblk vq) ∧ w.heap[g]? = some (.cells #[vl, vq] 52 (0, 0)) ∧ Told w vl l ∧ Told w vq q
theorem Mp.lt {w : World} {g : Nat} {F : List Nat} {l q : List R2} (h : Mp w g F l q) : ∀ b, b ∈ F → b < w.heap.size := by
  obtain ⟨vl, vq, rfl, h1, h2, h3, h4, h5, h6⟩ := h
  intro b hb
  rcases List.mem_cons.1 hb with rfl | hb
  · exact lt_of_block h4
  · rcases List.mem_append.1 hb with hb | hb
    · exact h5.lt b hb
    · exact h6.lt b hb
theorem Mp.chg {w w' : World} {g : Nat} {F G G' : List Nat} {l q : List R2} (h : Mp w g F l q) (hc : Chg G G' w w') (hs : Sep F G) : Mp w' g F l q := by
  have hl := h.lt
  obtain ⟨vl, vq, rfl, h1, h2, h3, h4, h5, h6⟩ := h
  exact ⟨vl, vq, rfl, h1, h2, h3, (hc.block (hl g (by simp)) (hs g (by simp))).trans h4, h5.chg hc fun b hb => hs b (by simp [hb]), h6.chg hc fun b hb => hs b (by simp [hb])⟩
theorem Mp.below {w w' : World} {g : Nat} {F : List Nat} {l q : List R2} (h : Mp w g F l q) (hb : Below w.heap.size w w') : Mp w' g F l q :=
  h.chg (Chg.of_below (F := []) hb) fun _ _ hm => by simp at hm
theorem Mp.drew {w : World} {g : Nat} {F : List Nat} {l q : List R2} (h : Mp w g F l q) : Mp w.drew g F l q := h
theorem Mp.drewN {w : World} {g : Nat} {F : List Nat} {l q : List R2} (h : Mp w g F l q) (n : Nat) : Mp (w.drewN n) g F l q := h
theorem Mp.cells {w : World} {g : Nat} {F : List Nat} {l q : List R2} (h : Mp w g F l q) : ∃ al cl aq cq, w.cell? ⟨g, 0, none⟩ = some (.slice al l.length cl) ∧ w.cell? ⟨g, 1, none⟩ = some (.slice aq q.length cq) ∧ Told w (.slice al l.length cl) l ∧ Told w (.slice aq q.length cq) q := by
  obtain ⟨vl, vq, rfl, h1, h2, h3, h4, h5, h6⟩ := h
  obtain ⟨al, cl, rfl, _, _⟩ := h5.slice
  obtain ⟨aq, cq, rfl, _, _⟩ := h6.slice
  exact ⟨al, cl, aq, cq, cell_of_row w g 0 _ 52 _ h4, cell_of_row w g 1 _ 52 _ h4, h5, h6⟩
set_option maxRecDepth 100000 in
set_option maxHeartbeats 4000000 in
theorem common_any (r s : R2) (w : World) (h1 : 0 ≤ r.a ∧ r.a ≤ 65536 ∧ 0 ≤ r.b ∧ r.b ≤ 65536) (h2 : 0 ≤ s.a ∧ s.a ≤ 65536 ∧ 0 ≤ s.b ∧ s.b ≤ 65536) :
    Calls Try.prog 24 #[.agg #[.int .i64 r.a, .int .i64 r.b], .agg #[.int .i64 s.a, .int .i64 s.b]] w fun e w' => e = .returned (.int .i64 (com r s)) ∧ Below w.heap.size w w' := by
  obtain ⟨a, b⟩ := r
  obtain ⟨c, d⟩ := s
  dsimp only at h1 h2 ⊢
  have hb : Below w.heap.size w ((w.alloc (.cells #[.int .i64 a, .int .i64 b] 30)).alloc (.cells #[.int .i64 c, .int .i64 d] 30)) := ((Below.refl _ w).alloc (Nat.le_refl _) _).alloc (by simp) _
  go_enter Try.func24, Try.ntmps24
  go_wp2_with fail
  all_goals
    refine bodyPost_ret (results_tmp rfl _ _ _) rfl ⟨?_, hb⟩
    show Ending.returned (.int .i64 _) = _
    refine ret_int ?_
    unfold com
    dsimp only
    omega
/-- What is wrong with a stretch. -/
def wrg (a b : Int) : Int := if a < 0 ∨ 65536 < b ∨ b < a then 3 else 0
set_option maxRecDepth 100000 in
theorem wrong_any (g : Nat) (a b : Int) (w : World) :
    Calls Try.prog 25 #[.pointer (some ⟨g, 0, none⟩), .int .i64 a, .int .i64 b] w fun e w' => e = .returned (.int .i64 (wrg a b)) ∧ w = w' := by
  by_cases h1 : a < 0
  · have hw : wrg a b = 3 := if_pos (.inl h1)
    rw [hw]
    have h1' : decide (a < 0) = true := decide_eq_true h1
    go_enter Try.func25, Try.ntmps25
    go_wp2
    go_ret
    exact ⟨rfl, rfl⟩
  · have h1' : decide (a < 0) = false := decide_eq_false h1
    by_cases h2 : 65536 < b
    · have hw : wrg a b = 3 := if_pos (.inr (.inl h2))
      rw [hw]
      have h2' : decide (65536 < b) = true := decide_eq_true h2
      go_enter Try.func25, Try.ntmps25
      go_wp2
      go_ret
      exact ⟨rfl, rfl⟩
    · have h2' : decide (65536 < b) = false := decide_eq_false h2
      by_cases h3 : b < a
      · have hw : wrg a b = 3 := if_pos (.inr (.inr h3))
        rw [hw]
        have h3' : decide (b < a) = true := decide_eq_true h3
        go_enter Try.func25, Try.ntmps25
        go_wp2
        go_ret
        exact ⟨rfl, rfl⟩
      · have hw : wrg a b = 0 := if_neg (by omega)
        rw [hw]
        have h3' : decide (b < a) = false := decide_eq_false h3
        go_enter Try.func25, Try.ntmps25
        go_wp2
        go_ret
        exact ⟨rfl, rfl⟩
theorem wrong_nil (a b : Int) (w : World) :
    Calls Try.prog 25 #[.pointer none, .int .i64 a, .int .i64 b] w fun e w' => e = .returned (.int .i64 1) ∧ w = w' := by
  go_enter Try.func25, Try.ntmps25
  go_wp2
  go_ret
  exact ⟨rfl, rfl⟩
theorem cntL_take (l : List R2) (s : R2) (i : Nat) (k : R2) (h : l[i]? = some k) : cntL (l.take (i + 1)) s = cntL (l.take i) s + com k s := by
  rw [take_succ' l i k h, cntL_append, cntL_cons]
  show _ + (_ + 0) = _
  omega
theorem cntL_empty (l : List R2) (s : R2) (h : s.b ≤ s.a) : cntL l s = 0 := by
  induction l with
  | nil => rfl
  | cons r l ih =>
    rw [cntL_cons, ih]
    unfold com
    omega
theorem com_le (r s : R2) (h1 : 0 ≤ r.a ∧ r.a ≤ 65536 ∧ 0 ≤ r.b ∧ r.b ≤ 65536) : com r s ≤ 65536 := by unfold com; omega
theorem cntL_le (s : R2) : ∀ (l : List R2), (∀ r ∈ l, 0 ≤ r.a ∧ r.a ≤ 65536 ∧ 0 ≤ r.b ∧ r.b ≤ 65536) → cntL l s ≤ 65536 * (l.length : Int)
  | [], _ => Int.le_refl 0
  | r :: l, h => by
    rw [cntL_cons, List.length_cons]
    have := cntL_le s l fun t ht => h t (by simp [ht])
    have := com_le r s (h r (by simp))
    omega
set_option maxRecDepth 100000 in
set_option maxHeartbeats 4000000 in
theorem count_any (g : Nat) (F : List Nat) (l q : List R2) (a b : Int) (w : World) (h : Mp w g F l q) (hm : l.length ≤ 100000) (hr : ∀ r ∈ l, 0 ≤ r.a ∧ r.a ≤ 65536 ∧ 0 ≤ r.b ∧ r.b ≤ 65536) (hab : 0 ≤ a ∧ a ≤ 65536 ∧ 0 ≤ b ∧ b ≤ 65536) :
    Calls Try.prog 11 #[.pointer (some ⟨g, 0, none⟩), .int .i64 a, .int .i64 b] w fun e w' => e = .returned (.int .i64 (cntL l ⟨a, b⟩)) ∧ Below w.heap.size w w' := by
  by_cases hlt : a < b
  · have hge : decide (b ≤ a) = false := decide_eq_false (by omega)
    obtain ⟨al, cl, aq, cq, c0, _, hT, _⟩ := h.cells
    clear h
    obtain ⟨s, hs⟩ : ∃ s : R2, s = ⟨a, b⟩ := ⟨_, rfl⟩
    have HS := Lib.hid hs
    rw [← hs]
    clear hs
    go_enter Try.func11, Try.ntmps11
    go_wp2_with fail
    go_loopw [7, 22] (fun o s' wr => ∃ i : Nat, i ≤ l.length ∧ s' = .int .i64 (i : Nat) ∧ o = .int .i64 (cntL (l.take i) s) ∧ Below w.heap.size w wr) (fun _ s' _ => l.length - (intOf s').toNat)
    case atStart => exact ⟨0, Nat.zero_le _, rfl, rfl, Below.refl _ _⟩
    case round =>
      obtain ⟨i, hi, rfl, rfl, hbr⟩ := hrel
      by_cases hil : i < l.length
      · obtain ⟨bl, cl', hv, hbl, hcell⟩ := hT.read (ne_nil_of_lt hil)
        cases hv
        have hk := List.getElem?_eq_getElem hil
        generalize l[i] = k at hk
        obtain ⟨e0, e1⟩ := hcell i k hk
        have e0 := cell_keep hbr e0
        have e1 := cell_keep hbr e1
        have HN := Lib.hid (cntL_take l s i k hk)
        have hkr := hr k (List.mem_of_getElem? hk)
        have hcl := cntL_le s (l.take i) fun t ht => hr t (List.mem_of_mem_take ht)
        have hcn := cntL_nonneg (l.take i) s
        have hc1 := com_le k s hkr
        have hc2 := com_nonneg k s
        have htl : (l.take i).length ≤ 100000 := by rw [List.length_take]; omega
        have hiI : ((i : Nat) : Int) < ((l.length : Nat) : Int) := by omega
        generalize cntL (l.take i) s = c at *
        have hw : IntKind.i64.wrap (c + com k s) = c + com k s := by rw [IntKind.wrap_i64]; omega
        have HB := Lib.hid hbr
        clear hcell hbr hk hcl
        have a1 : decide (a < 0) = false := decide_eq_false (by omega)
        have a2 : decide (65536 < b) = false := decide_eq_false (by omega)
        have hA : Below w.heap.size w (wr.alloc (.cells #[.int .i64 k.a, .int .i64 k.b] 30)) := HB.out.alloc HB.out.size _
        have HA := Lib.hid hA
        clear hA
        go_wp2_with fail
        refine (common_any k ⟨a, b⟩ _ hkr hab).mono ?_
        rintro e w2 ⟨rfl, hb2⟩
        rw [← HS.out]
        have HB2 := Lib.hid (HA.out.trans (hb2.mono HA.out.size))
        clear hb2
        go_wp2_with fail
        exact ⟨⟨i + 1, hil, by simp, by rw [HN.out], HB2.out⟩, by simp [intOf]; omega⟩
      · have hil2 : i = l.length := by omega
        subst hil2
        rw [List.take_length]
        go_wp2_with fail
        exact bodyPost_ret (results_tmp rfl _ _ _) rfl ⟨rfl, hbr⟩
  · rw [cntL_empty l ⟨a, b⟩ (by show b ≤ a; omega)]
    have hge : decide (b ≤ a) = true := decide_eq_true (by omega)
    go_enter Try.func11, Try.ntmps11
    go_wp2
    go_ret
    exact ⟨rfl, Below.refl _ _⟩

end Go.Proofs.Ytnakmjajpfilgaa
