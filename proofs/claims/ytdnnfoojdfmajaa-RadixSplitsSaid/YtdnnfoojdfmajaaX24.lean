/- Parts of the proofs of layer 19 (radix): contracts of its functions, and the laws' walks. -/
import Derived.Test.YtdnnfoojdfmajaaProg
import Derived.WalkKit
import Derived.WalkSpells
import Derived.WalkLawsBesides
import Derived.BigQuiet
import Derived.Deep.QuietTactic
import Derived.Lib.Hide
import Derived.Deep.RegionHeld3
import Derived.Deep.DeepCutAuto
import Derived.KernelRfl
import Derived.Deep.OwnRows
import Derived.Laws.CopyOwn
import Derived.Laws.CopyRow
import Derived.StillTailTactics
import Derived.Deep.RegionLaw
import Derived.Handy
import Derived.Deep.CutRange
import Derived.Deep.CutBlock
import Derived.Test.YtdnnfoojdfmajaaX23
namespace Go.Proofs.Ytdnnfoojdfmajaa
open Go.RowKit
set_option linter.unusedVariables false
set_option linter.unusedSimpArgs false

def σ0 : St := ⟨fun _ _ => none, fun _ _ => none, fun _ _ => 0, fun _ _ _ => false⟩
theorem good_nil : Good [] := ⟨fun x hx => by simp at hx, List.Pairwise.nil⟩
theorem ab_nil : Ab σ0 [] := by
  refine ⟨fun k p => ⟨fun h => ?_, fun h => ?_⟩, fun k q => ⟨fun h => ?_, fun h => ?_⟩, fun x hx => ?_, fun k q m _ _ => ⟨fun h => ?_, fun h => ?_⟩⟩
  · obtain ⟨b, hb⟩ := h; cases hb
  · obtain ⟨_, x, hx, _⟩ := h; simp at hx
  · obtain ⟨b, hb⟩ := h; cases hb
  · obtain ⟨x, hx, _⟩ := h; simp at hx
  · simp at hx
  · cases h
  · obtain ⟨x, hx, _⟩ := h; simp at hx
theorem new_Hp (w : World) : Hp (w.alloc (treeO none 0 0)) w.heap.size σ0 0 0 [w.heap.size] :=
  ⟨heap_alloc_new w _, (fun k p b hb => by cases hb), (fun k q b hb => by cases hb), (by simp), (fun b hb => by simp at hb; subst hb; simp), (fun _ _ _ _ _ h => by cases h), (fun _ _ _ _ _ h => by cases h)⟩
theorem Get_ok (g t : Nat) (σ : St) (many nodes : Int) (F : List Nat) (κ x : Nat) (l : List Nat) (w : World) (hg : g < 4096) (h : Hp w t σ many nodes F) (hN2 : ∀ q, σ.E 3 q = none) (hA : At σ g κ l) (hE : σ.E κ (g / 8 ^ κ) = some x) :
    Calls Try.prog 20 #[.pointer (some ⟨t, 0, none⟩), .int .i64 (g : Nat)] w fun e w' => Below w.heap.size w w' ∧ e = .returned (.tuple #[.int .i64 (σ.V κ (g / 8 ^ κ)), blk κ (g / 8 ^ κ), .int .i64 0]) :=
  (Get_any g t σ many nodes F w hg h hN2).mono fun e w' ⟨h1, h2⟩ => ⟨h1, by
    rcases h2 with ⟨h2, _⟩ | ⟨κ', x', l', hA', _, he⟩
    · exact absurd h2 (hA.not_nf hE hg)
    · obtain ⟨rfl, rfl⟩ := hA.uniq hA'
      exact he⟩
theorem cnt3 {σ1 : St} (h : Gr σ0 σ1 8 1) : cntN σ1.N = 3 := by
  unfold cntN
  have e : allN.countP (fun x => (σ1.N x.1 x.2).isSome) = allN.countP (fun x => decide (1 ≤ x.1 ∧ x.2 = 0)) := List.countP_congr fun x hx => by
    have hm := (allN_mem (k := x.1) (p := x.2)).1 hx
    rw [decide_eq_true_iff]
    constructor
    · intro hs
      by_cases hon : 1 ≤ x.1 ∧ x.1 ≤ 3 ∧ x.2 = 8 / 8 ^ (x.1 + 1)
      · refine ⟨hon.1, ?_⟩
        rw [hon.2.2]
        have : x.1 = 1 ∨ x.1 = 2 ∨ x.1 = 3 := by omega
        rcases this with e | e | e <;> rw [e] <;> decide
      · rw [h.off _ _ hon] at hs
        cases hs
    · rintro ⟨h1, h2⟩
      obtain ⟨b, hb⟩ := h.on x.1 h1 hm.1
      have e0 : 8 / 8 ^ (x.1 + 1) = 0 := by
        have : x.1 = 1 ∨ x.1 = 2 ∨ x.1 = 3 := by omega
        rcases this with e | e | e <;> rw [e] <;> decide
      rw [e0, ← h2] at hb
      rw [hb]; rfl
  rw [e]
  decide +kernel
/-- Behind the one Set. -/
def σS (σ1 : St) (e : Nat) : St := {σ1 with E := setO σ1.E 1 (8 / 8 ^ 1) (some e), V := fun k' q' => if k' = 1 ∧ q' = 8 / 8 ^ 1 then 100 else σ1.V k' q'}
theorem atS {σ1 : St} {e : Nat} (h : Gr σ0 σ1 8 1) : ∃ b3 b2 b1, σ1.N 3 0 = some b3 ∧ σ1.N 2 0 = some b2 ∧ σ1.N 1 0 = some b1 ∧ At (σS σ1 e) 8 1 [b3, b2, b1] := by
  obtain ⟨b3, h3⟩ := h.on 3 (by omega) (by omega)
  obtain ⟨b2, h2⟩ := h.on 2 (by omega) (by omega)
  obtain ⟨b1, h1⟩ := h.on 1 (by omega) (by omega)
  refine ⟨b3, b2, b1, h3, h2, h1, by omega, rfl, fun i hi => ?_, ?_⟩
  · have : i = 0 ∨ i = 1 ∨ i = 2 := by simp at hi; omega
    rcases this with rfl | rfl | rfl
    · exact h3
    · exact h2
    · exact h1
  · show (if 1 = 0 then none else σ1.N (1 - 1) (8 / 8 ^ 1)) = none
    rw [if_neg (by decide)]
    exact h.off 0 _ (by omega)
theorem S_V {σ1 : St} {e : Nat} : (σS σ1 e).V 1 (8 / 8 ^ 1) = 100 := by
  show (if 1 = 1 ∧ 8 / 8 ^ 1 = 8 / 8 ^ 1 then (100 : Int) else σ1.V 1 (8 / 8 ^ 1)) = 100
  exact if_pos ⟨rfl, rfl⟩
def σP (σ1 : St) (e c : Nat) : St := (σS σ1 e).split 1 (8 / 8 ^ 1) c 100 1
theorem P_N {σ1 : St} {e c k p : Nat} (h : k ≠ 0) : (σP σ1 e c).N k p = σ1.N k p := by
  show setO σ1.N (1 - 1) (8 / 8 ^ 1) (some c) k p = _
  exact setO_ne (by omega)
theorem P_E {σ1 : St} {e c i : Nat} (hi : i < 8) : (σP σ1 e c).E 0 (8 + i) = some (c + 1 + i) := by
  show (if 0 = 1 ∧ 8 + i = 8 / 8 ^ 1 then none else if 0 = 1 - 1 ∧ (8 + i) / 8 = 8 / 8 ^ 1 then some (c + 1 + (8 + i) % 8) else (σS σ1 e).E 0 (8 + i)) = _
  rw [if_neg (by omega), if_pos ⟨rfl, by show (8 + i) / 8 = 1; omega⟩]
  congr 1
  omega
theorem P_V {σ1 : St} {e c i : Nat} (hi : i < 8) : (σP σ1 e c).V 0 (8 + i) = 100 + (i : Nat) := by
  show (if 0 = 1 - 1 ∧ (8 + i) / 8 = 8 / 8 ^ 1 then 100 + (((8 + i) % 8 : Nat) : Int) * 1 else (σS σ1 e).V 0 (8 + i)) = _
  rw [if_pos ⟨rfl, by show (8 + i) / 8 = 1; omega⟩]
  omega
theorem P_M {σ1 : St} {e c i m : Nat} (h : Gr σ0 σ1 8 1) (hi : i < 8) : (σP σ1 e c).M 0 (8 + i) m = false := by
  show (if 0 = 1 - 1 ∧ (8 + i) / 8 = 8 / 8 ^ 1 ∧ m < 3 then σ1.M 1 (8 / 8 ^ 1) m else σ1.M 0 (8 + i) m) = false
  rw [h.M]
  split <;> rfl
theorem atP {σ1 : St} {e c g : Nat} {b3 b2 b1 : Nat} (h3 : σ1.N 3 0 = some b3) (h2 : σ1.N 2 0 = some b2) (h1 : σ1.N 1 0 = some b1) (hg : 8 ≤ g ∧ g < 16) : At (σP σ1 e c) g 0 [b3, b2, b1, c] := by
  refine ⟨by omega, rfl, fun i hi => ?_, rfl⟩
  have : i = 0 ∨ i = 1 ∨ i = 2 ∨ i = 3 := by simp at hi; omega
  rcases this with rfl | rfl | rfl | rfl
  · rw [show g / 8 ^ (4 - 0) = 0 from by show g / 4096 = 0; omega, P_N (by omega)]; exact h3
  · rw [show g / 8 ^ (4 - 1) = 0 from by show g / 512 = 0; omega, P_N (by omega)]; exact h2
  · rw [show g / 8 ^ (4 - 2) = 0 from by show g / 64 = 0; omega, P_N (by omega)]; exact h1
  · rw [show g / 8 ^ (4 - 3) = 1 from by show g / 8 = 1; omega]
    show setO σ1.N (1 - 1) (8 / 8 ^ 1) (some c) 0 1 = some c
    exact setO_at _ _ _ _
theorem P_alk {σ1 : St} {e c : Nat} (h : Gr σ0 σ1 8 1) {d : Int} (ha : Alk (σP σ1 e c) 0 1 d) : d = 0 := by
  have hbel : ∀ q, (σP σ1 e c).bel 0 q = none := fun q => rfl
  rcases ha with ⟨i, hi, _, ⟨h1, _⟩ | ⟨_, h1, _⟩⟩ | ⟨_, ⟨_, hu⟩ | ⟨h1, _⟩⟩
  · exact absurd (hbel _) h1
  · rw [show 8 * 1 + i = 8 + i from by omega, P_E hi] at h1
    cases h1
  · refine absurd ⟨fun i h1 h2 => ?_, fun m hm => .inl ?_⟩ hu
    · rw [show 8 * 1 + i = 8 + i from by omega, show 8 * 1 + (i - 1) = 8 + (i - 1) from by omega, show 8 * 1 + 1 = 8 + 1 from rfl, show 8 * 1 + 0 = 8 + 0 from rfl, P_V h2, P_V (by omega), P_V (by omega), P_V (by omega)]
      omega
    · have e8 : (any8 fun s => (σP σ1 e c).M 0 (8 * 1 + s) m) = any8 fun _ => false := any8_congr fun j hj => by rw [show 8 * 1 + j = 8 + j from by omega]; exact P_M h hj
      rw [e8]; rfl
  · exact h1
set_option maxRecDepth 100000 in
set_option maxHeartbeats 8000000 in
theorem awake_any (w : World) : Calls Try.prog 10 #[] w fun e w' => e = .returned (.bool true) ∧ Below w.heap.size w w' := by
  go_enter Try.func10, Try.ntmps10
  go_wp2_with fail
  refine (New_any w).mono ?_
  rintro e w1 ⟨rfl, rfl⟩
  have H1 := Lib.hid (new_Hp w)
  have HB1 := Lib.hid (show Below w.heap.size w (w.alloc (treeO none 0 0)) from (Below.refl _ _).alloc (Nat.le_refl _) _)
  generalize w.alloc (treeO none 0 0) = w1 at *
  generalize hT : w.heap.size = t at *
  have HTT := Lib.hid hT
  clear hT
  go_wp2_with fail
  refine (Set_ok 8 1 3 100 t σ0 [] 0 0 [t] w1 ⟨by decide, by decide, by decide, by decide, by decide⟩ (by decide) ab_nil good_nil H1.out (fun y hy => by simp at hy) (by decide) rfl).mono ?_
  rintro e w2 ⟨rfl, σ1, F2, en, hgr, h2, hc2⟩
  have HG := Lib.hid hgr
  have H2 := Lib.hid (show Hp w2 t (σS σ1 en) 1 3 F2 from by have := h2; rw [cnt3 hgr] at this; exact this)
  have HC2 := Lib.hid hc2
  clear hgr h2 hc2
  obtain ⟨b3, b2, b1, n3, n2, n1, hat⟩ := atS (e := en) HG.out
  have HAT := Lib.hid (And.intro hat (And.intro n3 (And.intro n2 n1)))
  clear hat n3 n2 n1
  go_wp2_with fail
  refine (Split_ok 8 t 1 (σS σ1 en) 1 3 F2 1 en [b3, b2, b1] w2 (by decide) H2.out HAT.out.1 (show setO σ1.E 1 (8 / 8 ^ 1) (some en) 1 (8 / 8 ^ 1) = some en from setO_at _ _ _ _) (by decide) (by rw [S_V]; decide) (by rw [S_V]; decide) (fun i hi => rfl) (by decide)).mono ?_
  rintro e w3 ⟨rfl, c, h3, hc3⟩
  have H3 := Lib.hid (show Hp w3 t (σP σ1 en c) 8 4 (fresh8 c ++ F2) from by rw [S_V] at h3; exact h3)
  have HC3 := Lib.hid hc3
  clear h3 hc3
  have hg11 := Get_ok 11 t (σP σ1 en c) 8 4 (fresh8 c ++ F2) 0 (c + 1 + 3) [b3, b2, b1, c] w3 (by decide) H3.out (fun q => by
    show (if 3 = 1 ∧ q = 8 / 8 ^ 1 then none else if 3 = 1 - 1 ∧ q / 8 = 8 / 8 ^ 1 then some (c + 1 + q % 8) else setO σ1.E 1 (8 / 8 ^ 1) (some en) 3 q) = none
    rw [if_neg (by omega), if_neg (by omega), setO_ne (by omega), HG.out.E]; rfl) (atP HAT.out.2.1 HAT.out.2.2.1 HAT.out.2.2.2 (by omega)) (P_E (i := 3) (by omega))
  rw [show (11 / 8 ^ 0) = 8 + 3 from rfl, P_V (by omega)] at hg11
  have HG11 := Lib.hid (show Calls Try.prog 20 #[.pointer (some ⟨t, 0, none⟩), .int .i64 11] w3 fun e w' => Below w3.heap.size w3 w' ∧ e = .returned (.tuple #[.int .i64 103, .agg #[.int .i64 11, .int .i64 0], .int .i64 0]) from hg11)
  clear hg11
  go_wp2_with fail
  refine HG11.out.mono ?_
  rintro e w4 ⟨hb4, rfl⟩
  have H4 := Lib.hid (H3.out.below hb4)
  have HB4 := Lib.hid hb4
  clear hb4 HG11
  have hA5 : Below w4.heap.size w4 (w4.alloc (.cells #[.int .i64 11, .int .i64 0] 29)) := (Below.refl _ _).alloc (Nat.le_refl _) _
  have hz := heap_alloc_new w4 (.cells #[.int .i64 11, .int .i64 0] 29)
  have z0 : (w4.alloc (.cells #[.int .i64 11, .int .i64 0] 29)).cell? ⟨w4.heap.size, 0, none⟩ = some (.int .i64 11) := cell_of_row _ _ 0 _ 29 _ hz
  have z1 : (w4.alloc (.cells #[.int .i64 11, .int .i64 0] 29)).cell? ⟨w4.heap.size, 1, none⟩ = some (.int .i64 0) := cell_of_row _ _ 1 _ 29 _ hz
  have H5 := Lib.hid (H4.out.below hA5)
  have HB5 := Lib.hid hA5
  clear hA5 hz
  go_upto_region 5 with fail
  generalize w4.alloc (.cells #[.int .i64 11, .int .i64 0] 29) = w5 at *
  go_wp2_with fail
  refine (Nodes_any t _ 8 4 _ w5 H5.out).mono ?_
  rintro e w6 ⟨rfl, rfl⟩
  have hj := Join_any 9 t (σP σ1 en c) 8 4 (fresh8 c ++ F2) 0 (c + 1 + 1) [b3, b2, b1, c] w5 (by decide) H5.out (atP HAT.out.2.1 HAT.out.2.2.1 HAT.out.2.2.2 (by omega)) (P_E (i := 1) (by omega)) (by decide) (fun i hi => .inl (by
    rw [show 8 * (9 / 8 ^ (0 + 1)) + i = 8 + i from by show 8 * 1 + i = 8 + i; omega, P_V hi]; omega)) (by decide)
  have HJ := Lib.hid (show Calls Try.prog 23 #[.pointer (some ⟨t, 0, none⟩), .int .i64 9] w5 fun e w' => e = .returned (.int .i64 0) ∧ ∃ σ', Hp w' t σ' 1 3 (fresh8 c ++ F2) ∧ Chg (fresh8 c ++ F2) (fresh8 c ++ F2) w5 w' from hj.mono fun e w' ⟨d, ha, he, hrest⟩ => by
    have hd := P_alk HG.out (show Alk (σP σ1 en c) 0 1 d from ha)
    subst hd
    rcases hrest with ⟨h, _⟩ | ⟨_, x0, _, h1, h2⟩
    · exact absurd rfl h
    · exact ⟨he, _, h1, h2⟩)
  clear hj
  have e0 := HTT.out
  have hB2 : Below t w1 w2 := HC2.out.below (fun b hb => by simp at hb; omega) (by have := HB1.out.size; omega)
  have hF2 : ∀ b, b ∈ F2 → t ≤ b := HC2.out.ge (fun b hb => by simp at hb; omega) (by have := HB1.out.size; omega)
  have hB3 : Below t w2 w3 := HC3.out.below hF2 (by have := HB1.out.size; have := hB2.size; omega)
  have hF3 : ∀ b, b ∈ fresh8 c ++ F2 → t ≤ b := HC3.out.ge hF2 (by have := HB1.out.size; have := hB2.size; omega)
  have HB9 := Lib.hid (show Below t w w5 ∧ (∀ b, b ∈ fresh8 c ++ F2 → t ≤ b) ∧ t ≤ w5.heap.size from by
    have s1 := HB1.out.size
    have s2 := hB2.size
    have s3 := hB3.size
    have s4 := HB4.out.size
    have s5 := HB5.out.size
    have e0 := HTT.out
    exact ⟨((HB1.out.trans (hB2.trans hB3)).trans (HB4.out.mono (by omega))).trans (HB5.out.mono (by omega)), hF3, by omega⟩)
  clear hB2 hF2 hB3 hF3 e0
  go_wp2_with fail
  refine HJ.out.mono ?_
  rintro e w7 ⟨rfl, σ', h7, hc7⟩
  have H7 := Lib.hid (And.intro h7 hc7)
  clear h7 hc7 z0 z1
  go_wp2_with fail
  refine (Nodes_any t _ 1 3 _ w7 H7.out.1).mono ?_
  rintro e w8 ⟨rfl, rfl⟩
  go_wp2_with fail
  refine (Len_any t _ 1 3 _ w7 H7.out.1).mono ?_
  rintro e w9 ⟨rfl, rfl⟩
  go_wp2_with fail
  go_ret
  exact ⟨rfl, by rw [HTT.out]; exact HB9.out.1.trans (H7.out.2.below HB9.out.2.1 HB9.out.2.2)⟩

end Go.Proofs.Ytdnnfoojdfmajaa
