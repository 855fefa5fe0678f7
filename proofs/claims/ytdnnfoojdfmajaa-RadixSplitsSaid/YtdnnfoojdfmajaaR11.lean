/- Parts of the proofs of layer 19 (radix): contracts of its functions, and the laws' walks. -/
import Derived.Test.YtdnnfoojdfmajaaProg
import Derived.WalkKit
import Derived.WalkSpells
import Derived.WalkLawsBesides
import Derived.BigQuiet
import Derived.Deep.QuietTactic
import Derived.Lib.Hide
import Derived.Deep.RegionHeld3
import Derived.Deep.DeepCutAuto
import Derived.KernelRfl
import Derived.Deep.OwnRows
import Derived.Laws.CopyOwn
import Derived.Laws.CopyRow
import Derived.StillTailTactics
import Derived.Deep.RegionLaw
import Derived.Handy
import Derived.Deep.CutRange
import Derived.Deep.CutBlock
import Derived.Test.YtdnnfoojdfmajaaR9
import Derived.Test.YtdnnfoojdfmajaaA5
import Derived.OwnWalk
namespace Go.Proofs.Ytdnnfoojdfmajaa
open Go.RowKit
set_option linter.unusedVariables false
set_option linter.unusedSimpArgs false

set_option maxHeartbeats 2000000 in
theorem size8_any (k : Nat) (hk : k ≤ 3) (w : World) : Calls Try.prog 55 #[.int .i64 (k : Nat)] w fun e w' => e = .returned (.int .i64 ((8 ^ k : Nat) : Int)) ∧ w' = w := by
  go_enter Try.func55, Try.ntmps55
  go_wp2_with fail
  go_loopw [3, 4] (fun s i wr => wr = w ∧ ∃ (j m : Nat), j ≤ k ∧ m ≤ 512 ∧ i = .int .i64 (j : Nat) ∧ s = .int .i64 (m : Nat) ∧ RowKit.Hid (m = 8 ^ j)) (fun _ i _ => k - (intOf i).toNat)
  case atStart => exact ⟨rfl, 0, 1, Nat.zero_le _, by decide, rfl, rfl, Lib.hid rfl⟩
  case round =>
    obtain ⟨rfl, j, m, hj, hm, rfl, rfl, HM⟩ := hrel
    by_cases hjk : j < k
    · have hjI : ((j : Nat) : Int) < ((k : Nat) : Int) := by omega
      have hm8 : RowKit.Hid (m * 8 = 8 ^ (j + 1) ∧ m * 8 ≤ 512) := Lib.hid (by
        rw [HM.out, ← Nat.pow_succ]
        refine ⟨rfl, ?_⟩
        rcases (show j = 0 ∨ j = 1 ∨ j = 2 by omega) with rfl | rfl | rfl <;> decide)
      go_wp2_with fail
      exact ⟨⟨by first | rfl | trivial, j + 1, m * 8, hjk, hm8.out.2, by simp, by simp, Lib.hid hm8.out.1⟩, by simp [intOf]; omega⟩
    · obtain rfl : j = k := by omega
      go_wp2_with fail
      go_ret
      exact ⟨by rw [HM.out]; rfl, rfl⟩
/-- The cells of a mapped page of the tables. -/
def tc (x : X) : List Value := [.int .i64 (x.p : Nat), .int .i64 (3 * ((x.k : Nat) : Int)), .int .i64 0, .bool false, .bool false, .bool false, .bool false, .bool false, .bool false]
theorem tc_length (x : X) : (tc x).length = 9 := rfl
def tcs (l : List X) : List Value := l.flatMap tc
theorem tcs_get (l : List X) (i j : Nat) (hj : j < 9) (k : X) (h : l[i]? = some k) : (tcs l)[i * 9 + j]? = (tc k)[j]? := by
  have h0 := flat_get tc 9 tc_length l i j hj
  rw [h] at h0
  exact h0
theorem tcs_one (k : X) : tcs [k] = tc k := by simp [tcs]
theorem tcs_append (a b : List X) : tcs (a ++ b) = tcs a ++ tcs b := by simp [tcs]
theorem tcs_onecell (l : List X) : ∀ u ∈ tcs l, u.oneCell' = true := by
  intro u hu
  obtain ⟨k, _, hk⟩ := List.mem_flatMap.1 hu
  simp only [tc, List.mem_cons, List.not_mem_nil, or_false] at hk
  rcases hk with rfl | rfl | rfl | rfl | rfl | rfl | rfl | rfl | rfl <;> rfl
/-- A row of mapped pages. -/
def TM (w : World) (v : Value) (l : List X) : Prop := Sq w 86 9 v l.length (tcs l)
theorem TM.read {w : World} {v : Value} {l : List X} (h : TM w v l) (hl : l ≠ []) : ∃ b cap, v = .slice (some ⟨b, 0, none⟩) l.length cap ∧ (∀ i k, l[i]? = some k → w.cell? ⟨b, i * 9, none⟩ = some (.int .i64 (k.p : Nat)) ∧ w.cell? ⟨b, i * 9 + 1, none⟩ = some (.int .i64 (3 * ((k.k : Nat) : Int)))) := by
  rcases Sq.cases h with ⟨_, h0⟩ | ⟨b, cap, rfl, h1, h2, hb, hcell, hf⟩
  · exact (hl (List.eq_nil_of_length_eq_zero h0)).elim
  · exact ⟨b, cap, rfl, fun i k hk => ⟨hcell _ _ (tcs_get l i 0 (by decide) k hk), hcell _ _ (tcs_get l i 1 (by decide) k hk)⟩⟩
/-- The cells of a prefix: where it begins, its level. -/
def pr (q : Nat × Nat) : List Value := [.int .i64 (q.1 : Nat), .int .i64 (q.2 : Nat)]
theorem pr_length (x : Nat × Nat) : (pr x).length = 2 := rfl
def prs (l : List (Nat × Nat)) : List Value := l.flatMap pr
theorem prs_get (l : List (Nat × Nat)) (i j : Nat) (hj : j < 2) (k : Nat × Nat) (h : l[i]? = some k) : (prs l)[i * 2 + j]? = (pr k)[j]? := by
  have h0 := flat_get pr 2 pr_length l i j hj
  rw [h] at h0
  exact h0
theorem prs_one (k : Nat × Nat) : prs [k] = pr k := by simp [prs]
theorem prs_append (a b : List (Nat × Nat)) : prs (a ++ b) = prs a ++ prs b := by simp [prs]
theorem prs_onecell (l : List (Nat × Nat)) : ∀ u ∈ prs l, u.oneCell' = true := by
  intro u hu
  obtain ⟨k, _, hk⟩ := List.mem_flatMap.1 hu
  simp only [pr, List.mem_cons, List.not_mem_nil, or_false] at hk
  rcases hk with rfl | rfl <;> rfl
/-- A row of prefixes. -/
def PM (w : World) (v : Value) (l : List (Nat × Nat)) : Prop := Sq w 29 2 v l.length (prs l)
theorem PM.read {w : World} {v : Value} {l : List (Nat × Nat)} (h : PM w v l) (hl : l ≠ []) : ∃ b cap, v = .slice (some ⟨b, 0, none⟩) l.length cap ∧ b < w.heap.size ∧ (∀ i k, l[i]? = some k → w.cell? ⟨b, i * 2, none⟩ = some (.int .i64 (k.1 : Nat)) ∧ w.cell? ⟨b, i * 2 + 1, none⟩ = some (.int .i64 (k.2 : Nat))) := by
  rcases Sq.cases h with ⟨_, h0⟩ | ⟨b, cap, rfl, h1, h2, hb, hcell, hf⟩
  · exact (hl (List.eq_nil_of_length_eq_zero h0)).elim
  · exact ⟨b, cap, rfl, hb, fun i k hk => ⟨hcell _ _ (prs_get l i 0 (by decide) k hk), hcell _ _ (prs_get l i 1 (by decide) k hk)⟩⟩
/-- The prefix of an entry at a level. -/
def kx (x : X) (l : Nat) : Nat × Nat := (x.p - x.p % 8 ^ (l + 1), l)
/-- What is among the prefixes when the entries before i are done, and of the i-th the levels from l up. -/
def Done (L : List X) (i l : Nat) (b : Nat × Nat) : Prop := (∃ a y, a < i ∧ L[a]? = some y ∧ ∃ n, y.k ≤ n ∧ n ≤ 2 ∧ b = kx y n) ∨ (∃ y, L[i]? = some y ∧ ∃ n, y.k ≤ n ∧ l ≤ n ∧ n ≤ 2 ∧ b = kx y n)
def Out (L : List X) (i l : Nat) (o : List (Nat × Nat)) : Prop := o.Nodup ∧ ∀ b, b ∈ o ↔ Done L i l b
theorem Done.row {L : List X} {i l : Nat} {x : X} (hi : L[i]? = some x) (hl : l ≤ x.k ∨ l = 0) {b : Nat × Nat} : Done L i l b ↔ Done L (i + 1) 3 b := by
  constructor
  · rintro (⟨a, y, ha, hy, n, h1, h2, h3⟩ | ⟨y, hy, n, h1, h2, h3, h4⟩)
    · exact .inl ⟨a, y, by omega, hy, n, h1, h2, h3⟩
    · exact .inl ⟨i, y, by omega, hy, n, h1, h3, h4⟩
  · rintro (⟨a, y, ha, hy, n, h1, h2, h3⟩ | ⟨y, hy, n, h1, h2, h3, h4⟩)
    · by_cases e : a = i
      · subst e; rw [hi] at hy; cases hy; exact .inr ⟨_, hi, n, h1, by omega, h2, h3⟩
      · exact .inl ⟨a, y, by omega, hy, n, h1, h2, h3⟩
    · omega
theorem Done.level {L : List X} {i l : Nat} {x : X} (hi : L[i]? = some x) (hl : x.k ≤ l) (hl2 : l ≤ 2) {b : Nat × Nat} : Done L i l b ↔ Done L i (l + 1) b ∨ b = kx x l := by
  constructor
  · rintro (h | ⟨y, hy, n, h1, h2, h3, h4⟩)
    · exact .inl (.inl h)
    · rw [hi] at hy
      cases hy
      by_cases e : n = l
      · subst e; exact .inr h4
      · exact .inl (.inr ⟨_, hi, n, h1, by omega, h3, h4⟩)
  · rintro ((h | ⟨y, hy, n, h1, h2, h3, h4⟩) | rfl)
    · exact .inl h
    · exact .inr ⟨y, hy, n, h1, by omega, h3, h4⟩
    · exact .inr ⟨x, hi, l, hl, Nat.le_refl _, hl2, rfl⟩
theorem Out.start (L : List X) : Out L 0 3 [] := ⟨List.nodup_nil, fun b => ⟨fun h => by simp at h, fun h => by
  rcases h with ⟨a, y, ha, _⟩ | ⟨y, hy, n, h1, h2, h3, h4⟩
  · omega
  · omega⟩⟩
theorem Out.row {L : List X} {i l : Nat} {x : X} {o : List (Nat × Nat)} (h : Out L i l o) (hi : L[i]? = some x) (hl : l ≤ x.k ∨ l = 0) : Out L (i + 1) 3 o := ⟨h.1, fun b => (h.2 b).trans (Done.row hi hl)⟩
theorem Out.old {L : List X} {i l : Nat} {x : X} {o : List (Nat × Nat)} (h : Out L i (l + 1) o) (hi : L[i]? = some x) (hl : x.k ≤ l) (hl2 : l ≤ 2) (hm : kx x l ∈ o) : Out L i l o := ⟨h.1, fun b => by
  rw [Done.level hi hl hl2, ← h.2]
  exact ⟨.inl, fun hh => hh.elim id fun e => e ▸ hm⟩⟩
theorem Out.new {L : List X} {i l : Nat} {x : X} {o : List (Nat × Nat)} (h : Out L i (l + 1) o) (hi : L[i]? = some x) (hl : x.k ≤ l) (hl2 : l ≤ 2) (hm : kx x l ∉ o) : Out L i l (o ++ [kx x l]) := ⟨by
  rw [List.nodup_append]
  exact ⟨h.1, by simp, fun a ha b hb e => by simp at hb; subst hb; subst e; exact hm ha⟩, fun b => by
  rw [Done.level hi hl hl2, ← h.2, List.mem_append, List.mem_singleton]⟩
theorem Out.fin {L : List X} {o : List (Nat × Nat)} (h : Out L L.length 3 o) : o.Nodup ∧ ∀ b, b ∈ o ↔ ∃ y ∈ L, ∃ n, y.k ≤ n ∧ n ≤ 2 ∧ b = kx y n := ⟨h.1, fun b => by
  rw [h.2]
  constructor
  · rintro (⟨a, y, ha, hy, n, h1, h2, h3⟩ | ⟨y, hy, n, h1, h2, h3, h4⟩)
    · exact ⟨y, List.mem_of_getElem? hy, n, h1, h2, h3⟩
    · omega
  · rintro ⟨y, hy, n, h1, h2, h3⟩
    obtain ⟨a, ha⟩ := List.mem_iff_getElem?.1 hy
    exact .inl ⟨a, y, (List.getElem?_eq_some_iff.1 ha).1, ha, n, h1, h2, h3⟩⟩
theorem wr1 {l : Nat} (h : l + 1 ≤ 3) : wrap64 (((l : Nat) : Int) + 1) = ((l : Nat) : Int) + 1 ∧ IntKind.i64.wrap (((l : Nat) : Int) + 1) = ((l : Nat) : Int) + 1 ∧ wrap64 (((l : Nat) : Int) - 1) = ((l : Nat) : Int) - 1 := ⟨IntWalk.wrap64_in _ (by omega), by rw [IntKind.wrap_i64]; omega, IntWalk.wrap64_in _ (by omega)⟩
theorem wr2 {a : Nat} {n : Int} (h : n = ((a : Nat) : Int)) (ha : a < 5000) : IntKind.i64.wrap n = ((a : Nat) : Int) := by rw [h, IntKind.wrap_i64]; omega
theorem eq29 (a b c d : Int) (w : World) : (Op.equalIn 10000 29 (.agg #[.int .i64 a, .int .i64 b]) (.agg #[.int .i64 c, .int .i64 d])).run Try.prog w = .ok (a == c && b == d) w := by
  simp [go_sem]
  by_cases h1 : a = c <;> by_cases h2 : b = d <;> simp [h1, h2]


theorem TM.below {w w' : World} {v : Value} {l : List X} (h : TM w v l) (hb : Below w.heap.size w w') : TM w' v l := Sq.below h hb
theorem PM.below {w w' : World} {v : Value} {l : List (Nat × Nat)} (h : PM w v l) (hb : Below w.heap.size w w') : PM w' v l := Sq.below h hb
theorem box29 (a l : Int) (w : World) : (w.alloc (.cells #[.int .i64 a, .int .i64 l] 29)).cell? ⟨w.heap.size, 0, none⟩ = some (.int .i64 a) ∧ (w.alloc (.cells #[.int .i64 a, .int .i64 l] 29)).cell? ⟨w.heap.size, 1, none⟩ = some (.int .i64 l) ∧ Below w.heap.size w (w.alloc (.cells #[.int .i64 a, .int .i64 l] 29)) := by
  have hz := heap_alloc_new w (.cells #[.int .i64 a, .int .i64 l] 29)
  exact ⟨cell_of_row _ _ 0 _ 29 _ hz, cell_of_row _ _ 1 _ 29 _ hz, (Below.refl _ _).alloc (Nat.le_refl _) _⟩
theorem kx_val {x : X} {l : Nat} : ((x.p : Nat) : Int) - ((x.p : Nat) : Int) % ((8 ^ (l + 1) : Nat) : Int) = (((kx x l).1 : Nat) : Int) := by
  unfold kx
  have : x.p % 8 ^ (l + 1) ≤ x.p := Nat.mod_le _ _
  rw [← Int.natCast_emod, ← Int.natCast_sub this]
theorem take_succ'' {α : Type} (l : List α) (i : Nat) (a : α) (h : l[i]? = some a) : l.take (i + 1) = l.take i ++ [a] := by rw [List.take_add_one, h]; rfl
theorem growP {w0 W w' : World} {v v' : Value} {D : List (Nat × Nat)} {k : Nat × Nat} {ob : Obj} (hown : Sq w' 29 2 v' (D.length + 1) (prs D ++ prs [k])) (hgr : Chg (vblk v) (vblk v') (W.alloc ob) w') (hc : Chg [] (vblk v) w0 W) :
    PM w' v' (D ++ [k]) ∧ Chg [] (vblk v') w0 w' := ⟨by unfold PM; rw [List.length_append, prs_append]; exact hown, (hc.trans (Chg.of_below ((Below.refl _ _).alloc (Nat.le_refl _) _))).trans hgr⟩
set_option maxRecDepth 100000 in
set_option maxHeartbeats 16000000 in
theorem prefixes_any (ao : Option Addr) (cap : Nat) (L : List X) (w : World) (hT : TM w (.slice ao L.length cap) L) (hg : Good L) :
    Calls Try.prog 49 #[.slice ao L.length cap] w fun e w' => ∃ o vo, e = .returned vo ∧ Out L L.length 3 o ∧ PM w' vo o ∧ Below w.heap.size w w' ∧ o.length ≤ 12288 := by
  have hlen : L.length ≤ 4096 := hg.length
  have HT := Lib.hid (And.intro hT hg)
  clear hT hg
  go_enter Try.func49, Try.ntmps49
  go_wp2_with fail
  go_loopw [3, 4] (fun o s wr => ∃ (i : Nat) (lo : List (Nat × Nat)), i ≤ L.length ∧ s = .int .i64 (i : Nat) ∧ lo.length ≤ 3 * i ∧ RowKit.Hid (Out L i 3 lo ∧ PM wr o lo ∧ Chg [] (vblk o) w wr)) (fun _ s _ => L.length - (intOf s).toNat)
  case atStart => exact ⟨0, [], Nat.zero_le _, rfl, Nat.zero_le _, Lib.hid ⟨Out.start L, Sq.nil _ _ _, by rw [vblk_nil]; exact Chg.refl _ _⟩⟩
  case round =>
    obtain ⟨i, lo0, hi, rfl, hlo0, HL0⟩ := hrel
    by_cases hil : i < L.length
    · have hiI : ((i : Nat) : Int) < ((L.length : Nat) : Int) := by omega
      have hi0 : (0 : Int) ≤ ((i : Nat) : Int) := by omega
      have hk := List.getElem?_eq_getElem hil
      generalize L[i] = x at hk
      have hxo := HT.out.2.1 x (List.mem_of_getElem? hk)
      have HX := Lib.hid (And.intro hk hxo)
      have hxp : x.p < 4096 := hxo.lt
      clear hk hxo
      obtain ⟨bt, cl2, hv', htc⟩ := HT.out.1.read (ne_nil_of_lt hil)
      cases hv'
      have HTC := Lib.hid (htc i x HX.out.1)
      have HS0 := Lib.hid (fun W => siz_at HX.out.2.1 W)
      obtain ⟨ko, hko⟩ : ∃ ko, 3 * ((x.k : Nat) : Int) = ko := ⟨_, rfl⟩
      rw [hko] at HTC HS0
      clear htc hko
      obtain ⟨ao0, cap0, rfl, _, _⟩ := Sq.slice HL0.out.2.1
      go_wp2_with fail
      go_loopw [3, 5] (fun o s wr => ∃ (sI : Int) (l1 : Nat) (lo : List (Nat × Nat)), l1 ≤ 3 ∧ s = .int .i64 sI ∧ sI = ((l1 : Nat) : Int) - 1 ∧ lo.length + l1 ≤ 3 * i + 3 ∧ RowKit.Hid (x.k ≤ l1 ∧ Out L i l1 lo ∧ PM wr o lo ∧ Chg [] (vblk o) w wr)) (fun _ s _ => (intOf s + 1).toNat)
      case atStart => exact ⟨2, 3, lo0, Nat.le_refl _, rfl, rfl, by omega, Lib.hid ⟨by have := HX.out.2.1; omega, HL0.out⟩⟩
      case round =>
        obtain ⟨sI, l1, lo, hl3, rfl, hsI, hlo, HL⟩ := hrel
        by_cases hl0 : l1 = 0
        · subst hl0
          obtain rfl : sI = -1 := by omega
          clear hsI
          go_wp2_with fail
          exact ⟨⟨i + 1, lo, hil, by simp, by omega, Lib.hid ⟨HL.out.2.1.row HX.out.1 (.inr rfl), HL.out.2.2⟩⟩, by simp [intOf]; omega⟩
        · obtain ⟨l, rfl, rfl⟩ : ∃ l : Nat, sI = (l : Nat) ∧ l1 = l + 1 := ⟨l1 - 1, by omega, by omega⟩
          clear hsI hl0
          have HBR := Lib.hid (HL.out.2.2.2.below (fun b hb => by simp at hb) (Nat.le_refl _))
          have e0 := cell_keep HBR.out HTC.out.1
          have e1 := cell_keep HBR.out HTC.out.2
          have HS8 : RowKit.Hid (∀ W, Calls Try.prog 55 #[.int .i64 (((l : Nat) : Int) + 1)] W fun e w' => e = .returned (.int .i64 ((8 ^ (l + 1) : Nat) : Int)) ∧ w' = W) := Lib.hid (fun W => by
            have := size8_any (l + 1) hl3 W
            rwa [show ((l + 1 : Nat) : Int) = ((l : Nat) : Int) + 1 from rfl] at this)
          have hkv := kx_val (x := x) (l := l)
          have hss0 : x.k ≤ l → 8 ^ x.k < 8 ^ (l + 1) := fun h => Nat.pow_lt_pow_right (by decide) (by omega)
          have hss1 : ¬ x.k ≤ l → 8 ^ x.k = 8 ^ (l + 1) := fun h => by rw [show x.k = l + 1 from by have := HL.out.1; omega]
          have hs1p : 0 < 8 ^ (l + 1) := Nat.pow_pos (by decide)
          have HS0' := HS0.out
          generalize 8 ^ x.k = s0 at HS0' hss0 hss1
          generalize 8 ^ (l + 1) = s1 at *
          have HS1 := Lib.hid HS0'
          clear HS0'
          have hl0 : (0 : Int) ≤ ((l : Nat) : Int) := by omega
          obtain ⟨q2, q3, q5⟩ := wr1 hl3
          by_cases hlt : x.k ≤ l
          · have hss : ((s0 : Nat) : Int) < ((s1 : Nat) : Int) := by have := hss0 hlt; omega
            have hrm : ¬ (((s1 : Nat) : Int) = 0) := by omega
            have HLT := Lib.hid hlt
            obtain ⟨a, ha⟩ : ∃ a, (kx x l).1 = a := ⟨_, rfl⟩
            have hab : a ≤ x.p := by rw [← ha]; exact Nat.sub_le _ _
            have HAA := Lib.hid ha
            rw [ha] at hkv
            have q4 : IntKind.i64.wrap (((x.p : Nat) : Int) - ((x.p : Nat) : Int) % ((s1 : Nat) : Int)) = ((a : Nat) : Int) := wr2 hkv (by omega)
            have hrn : ¬ (s1 = 0) := by omega
            have hrb : (((s1 : Nat) : Int) == 0) = false := by simp [hrn]
            obtain ⟨rr, hrr⟩ : ∃ rr, x.p % s1 = rr := ⟨_, rfl⟩
            have q6 : ((x.p : Nat) : Int) % ((s1 : Nat) : Int) = ((rr : Nat) : Int) := by rw [← Int.natCast_emod, hrr]
            have q7 : Int.tmod ((x.p : Nat) : Int) ((s1 : Nat) : Int) = ((rr : Nat) : Int) := by rw [Int.tmod_eq_emod_of_nonneg (by omega)]; exact q6
            have q8 : IntKind.i64.wrap ((rr : Nat) : Int) = ((rr : Nat) : Int) := wr2 rfl (by have := Nat.mod_le x.p s1; omega)
            rw [q6] at q4
            clear hkv hss0 hss1 hs1p hlt ha hab hrr
            go_upto_region 8 with (first | (go_at_call 14; refine (HS1.out _).mono ?_; rintro e w5 ⟨rfl, rfl⟩) | (go_at_call 55; refine (HS8.out _).mono ?_; rintro e w5 ⟨rfl, rfl⟩))
            go_cut [6] from 31 to 47 (fun s6 wx => ∃ W : World, W = wx ∧ ∃ B : Nat, s6 = .pointer (some ⟨B, 0, none⟩) ∧ RowKit.Hid (wx.cell? ⟨B, 0, none⟩ = some (.int .i64 (a : Nat)) ∧ wx.cell? ⟨B, 1, none⟩ = some (.int .i64 (l : Nat)) ∧ Below w5.heap.size w5 wx))
            case first =>
              go_region_held3 (fun w' => w'.cell? ⟨bt, i * 9, none⟩ = some (.int .i64 (x.p : Nat))) (first | exact cell_alloc (by assumption) _ | assumption | go_keep) (first | (go_at_call 55; refine (HS8.out _).mono ?_; rintro e w6 ⟨rfl, rfl⟩))
              all_goals (
                go_wp2_with fail
                go_meet
                case rel => exact ⟨_, rfl, _, rfl, Lib.hid ⟨(box29 (a : Nat) (l : Nat) w5).1, (box29 (a : Nat) (l : Nat) w5).2.1, (box29 (a : Nat) (l : Nat) w5).2.2.drew⟩⟩)
            case rest =>
              obtain ⟨W, hW, B, rfl, HB⟩ := hcut
              subst hW
              have HKL := Lib.hid (show kx x l = (a, l) from Prod.ext HAA.out rfl)
              have HPW := Lib.hid (And.intro (HL.out.2.2.1.below HB.out.2.2) (HL.out.2.2.2.trans (Chg.of_below HB.out.2.2)))
              obtain ⟨ao1, cap1, rfl, hcp1, hcm1⟩ := Sq.slice HL.out.2.2.1
              clear q2 q3 q4 q6 q7 q8 hrm hrn hrb hss e0 e1
              go_wp2_with fail
              go_loopw [7, 8] (fun f s wx => ∃ (n : Nat) (fb : Bool), n ≤ lo.length ∧ s = .int .i64 (n : Nat) ∧ f = .bool fb ∧ RowKit.Hid (Below W.heap.size W wx ∧ fb = decide ((a, l) ∈ lo.take n))) (fun _ s _ => lo.length - (intOf s).toNat)
              case atStart => exact ⟨0, false, Nat.zero_le _, rfl, rfl, Lib.hid ⟨Below.refl _ _, by simp⟩⟩
              case round =>
                obtain ⟨n, fb, hn, rfl, rfl, HF⟩ := hrel
                by_cases hnl : n < lo.length
                · have hnI : ((n : Nat) : Int) < ((lo.length : Nat) : Int) := by omega
                  have hn0 : (0 : Int) ≤ ((n : Nat) : Int) := by omega
                  have hk0 := List.getElem?_eq_getElem hnl
                  generalize lo[n] = k0 at hk0
                  obtain ⟨bp, cp, hv', hbp, hpc⟩ := PM.read (HPW.out.1.below HF.out.1) (ne_nil_of_lt hnl)
                  cases hv'
                  obtain ⟨c0, c1⟩ := hpc n k0 hk0
                  have z0 := cell_keep HF.out.1 HB.out.1
                  have z1 := cell_keep HF.out.1 HB.out.2.1
                  have HTS := Lib.hid (show (a, l) ∈ lo.take (n + 1) ↔ (a, l) ∈ lo.take n ∨ k0 = (a, l) by rw [take_succ'' lo n k0 hk0, List.mem_append, List.mem_singleton]; exact ⟨fun h => h.imp id Eq.symm, fun h => h.imp id Eq.symm⟩)
                  clear hpc hk0
                  obtain ⟨k1, k2⟩ := k0
                  have c0' : wr.cell? ⟨bp, n * 2, none⟩ = some (.int .i64 (k1 : Nat)) := c0
                  have c1' : wr.cell? ⟨bp, n * 2 + 1, none⟩ = some (.int .i64 (k2 : Nat)) := c1
                  clear c0 c1
                  cases fb with
                  | true =>
                    go_upto_region 13 with fail
                    go_quiet (fail)
                    have HN := Lib.hid (below_drewN HF.out.1 nq)
                    clear c0' c1' z0 z1
                    go_wp2_with fail
                    exact ⟨⟨n + 1, true, hnl, by simp, rfl, Lib.hid ⟨HN.out, by rw [eq_comm, decide_eq_true_eq, HTS.out]; exact .inl (of_decide_eq_true HF.out.2.symm)⟩⟩, by simp [intOf]; omega⟩
                  | false =>
                    by_cases hq : k1 = a ∧ k2 = l
                    · obtain ⟨rfl, rfl⟩ := hq
                      have heq : ∀ W', (Op.equalIn 10000 29 (.agg #[.int .i64 (k1 : Nat), .int .i64 (k2 : Nat)]) (.agg #[.int .i64 (k1 : Nat), .int .i64 (k2 : Nat)])).run Try.prog W' = .ok true W' := fun W' => by rw [eq29]; simp
                      go_upto_region 13 with fail
                      go_quiet (fail)
                      have HN := Lib.hid (below_drewN HF.out.1 nq)
                      clear c0' c1' z0 z1 heq
                      go_wp2_with fail
                      exact ⟨⟨n + 1, true, hnl, by simp, rfl, Lib.hid ⟨HN.out, by rw [eq_comm, decide_eq_true_eq, HTS.out]; exact .inr rfl⟩⟩, by simp [intOf]; omega⟩
                    · have HQ := Lib.hid hq
                      have heq : ∀ W', (Op.equalIn 10000 29 (.agg #[.int .i64 (k1 : Nat), .int .i64 (k2 : Nat)]) (.agg #[.int .i64 (a : Nat), .int .i64 (l : Nat)])).run Try.prog W' = .ok false W' := fun W' => by
                        rw [eq29]
                        have : (((k1 : Nat) : Int) == ((a : Nat) : Int) && ((k2 : Nat) : Int) == ((l : Nat) : Int)) = false := by
                          cases hh : (((k1 : Nat) : Int) == ((a : Nat) : Int) && ((k2 : Nat) : Int) == ((l : Nat) : Int)) with
                          | false => rfl
                          | true => simp at hh; exact absurd ⟨by omega, by omega⟩ hq
                        rw [this]
                      clear hq
                      go_upto_region 13 with fail
                      go_quiet (fail)
                      have HN := Lib.hid (below_drewN HF.out.1 nq)
                      clear c0' c1' z0 z1 heq
                      go_wp2_with fail
                      exact ⟨⟨n + 1, false, hnl, by simp, rfl, Lib.hid ⟨HN.out, by
                        rw [eq_comm, decide_eq_false_iff_not, HTS.out]
                        rintro (h | h)
                        · exact (of_decide_eq_false HF.out.2.symm) h
                        · cases h; exact HQ.out ⟨rfl, rfl⟩⟩⟩, by simp [intOf]; omega⟩
                · obtain rfl : n = lo.length := by omega
                  have HFB := Lib.hid (show fb = decide ((a, l) ∈ lo) by rw [HF.out.2, List.take_length])
                  cases fb with
                  | true =>
                    have HMEM := Lib.hid (show kx x l ∈ lo from HKL.out ▸ of_decide_eq_true HFB.out.symm)
                    go_wp2_with fail
                    exact ⟨⟨((l : Nat) : Int) - 1, l, lo, by omega, by simp, rfl, by omega, Lib.hid ⟨HLT.out, HL.out.2.1.old HX.out.1 HLT.out (by omega) HMEM.out, HPW.out.1.below HF.out.1, HPW.out.2.trans (Chg.of_below HF.out.1)⟩⟩, by simp [intOf]⟩
                  | false =>
                    have HMEM := Lib.hid (show kx x l ∉ lo from HKL.out ▸ of_decide_eq_false HFB.out.symm)
                    have z0 := cell_keep HF.out.1 HB.out.1
                    have z1 := cell_keep HF.out.1 HB.out.2.1
                    have hA : Below wr.heap.size wr (wr.alloc (.cells #[.int .i64 ((a : Nat) : Int), .int .i64 ((l : Nat) : Int)] 29)) := (Below.refl _ _).alloc (Nat.le_refl _) _
                    have hown := PM.below (HPW.out.1.below HF.out.1) hA
                    have hnew := news_alloc wr #[.int .i64 ((a : Nat) : Int), .int .i64 ((l : Nat) : Int)] 29
                    clear hA
                    have HGO := Lib.hid (fun vq wq (hownq : Sq wq 29 2 vq (lo.length + 1) (prs lo ++ prs [(a, l)])) (hgrq : Chg (vblk (.slice ao1 lo.length cap1)) (vblk vq) (wr.alloc (.cells #[.int .i64 ((a : Nat) : Int), .int .i64 ((l : Nat) : Int)] 29)) wq) => growP hownq hgrq (HPW.out.2.trans (Chg.of_below HF.out.1)))
                    obtain ⟨i0, hi0, hz0, hz1, hz2⟩ := info_parts (show (Try.prog.info? 29).map (fun i => (i.zero, i.size, i.bytes)) = some (some (.agg #[.int .i64 0, .int .i64 0]), 2, 16) by kernel_rfl)
                    go_wp2_with (at_builtin; refine wpList_append_any _ rfl (.tmp 65) (.tmp 67) 92 rfl 29 i0 (.agg #[.int .i64 0, .int .i64 0]) 2 16 Try.underlying92 hi0 hz0 hz1 hz2 rfl (by decide) (.slice ao1 lo.length cap1) lo.length (prs lo) rfl hown (some ⟨wr.heap.size, 0, none⟩) 1 1 (prs [(a, l)]) rfl (fun h => by cases h) rfl (fun a ha => by cases ha; exact (by rw [prs_one]; exact hnew)) (prs_onecell _) (by unfold maxLen; omega) (by omega) ?_; intro vq wq hownq hgrq; have HG1 := Lib.hid (HGO.out vq wq hownq hgrq); clear hgrq; obtain ⟨aoq, capq, rfl, _, _⟩ := Sq.slice hownq; clear hownq hown hnew HGO)
                    exact ⟨⟨((l : Nat) : Int) - 1, l, lo ++ [(a, l)], by omega, by simp, rfl, by simp; omega, Lib.hid ⟨HLT.out, by have := HL.out.2.1.new HX.out.1 HLT.out (by omega) HMEM.out; rw [HKL.out] at this; exact this, HG1.out.1, HG1.out.2⟩⟩, by simp [intOf]⟩
          · have hss : ¬ (((s0 : Nat) : Int) < ((s1 : Nat) : Int)) := by have := hss1 hlt; omega
            have HLT := Lib.hid hlt
            clear hkv hss0 hss1 hs1p hlt
            go_wp2_with (first | (go_at_call 14; refine (HS1.out _).mono ?_; rintro e w5 ⟨rfl, rfl⟩) | (go_at_call 55; refine (HS8.out _).mono ?_; rintro e w5 ⟨rfl, rfl⟩))
            exact ⟨⟨i + 1, lo, hil, by simp, by omega, Lib.hid ⟨HL.out.2.1.row HX.out.1 (.inl (by have := HLT.out; omega)), HL.out.2.2⟩⟩, by simp [intOf]; omega⟩
    · obtain rfl : i = L.length := by omega
      obtain ⟨ao0, cap0, rfl, _, _⟩ := Sq.slice HL0.out.2.1
      go_wp2_with fail
      go_ret
      exact ⟨lo0, _, rfl, HL0.out.1, HL0.out.2.1, HL0.out.2.2.below (fun b hb => by simp at hb) (Nat.le_refl _), by omega⟩

end Go.Proofs.Ytdnnfoojdfmajaa
