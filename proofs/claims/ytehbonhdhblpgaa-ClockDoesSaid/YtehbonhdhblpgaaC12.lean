/- Parts of the proofs of layer 25 (clock): contracts of its functions, and the laws' walks. -/
import Derived.Test.YtehbonhdhblpgaaProg
import Derived.WalkKit
import Derived.WalkSpells
import Derived.WalkLawsBesides
import Derived.BigQuiet
import Derived.Deep.QuietTactic
import Derived.Lib.Hide
import Derived.Deep.RegionHeld3
import Derived.Deep.DeepCutAuto
import Derived.KernelRfl
import Derived.Deep.OwnRows
import Derived.Laws.CopyOwn
import Derived.Laws.CopyRow
import Derived.StillTailTactics
import Derived.Deep.RegionLaw
import Derived.Test.YtehbonhdhblpgaaC11
namespace Go.Proofs.Ytehbonhdhblpgaa
open Go.RowKit
set_option linter.unusedVariables false
set_option linter.unusedSimpArgs false

/-- A slice of calls that came in: its elements' fields. -/
def Acts (w : World) (ao : Option Addr) (len : Nat) (z : Nat → Nat → Int) : Prop :=
  ∀ j, j < len → ∃ b o, ao = some ⟨b, o, none⟩ ∧ w.cell? ⟨b, o + j * 5, none⟩ = some (.int .i64 (z j 0)) ∧ w.cell? ⟨b, o + j * 5 + 1, none⟩ = some (.int .i64 (z j 1)) ∧ w.cell? ⟨b, o + j * 5 + 2, none⟩ = some (.int .i64 (z j 2)) ∧ w.cell? ⟨b, o + j * 5 + 3, none⟩ = some (.int .i64 (z j 3)) ∧ w.cell? ⟨b, o + j * 5 + 4, none⟩ = some (.int .i64 (z j 4))
theorem World.drewN_add' (w : World) (a b : Nat) : (w.drewN a).drewN b = w.drewN (a + b) := by simp
theorem Acts.below {w w' : World} {ao : Option Addr} {len : Nat} {z : Nat → Nat → Int} (h : Acts w ao len z) (hb : Below w.heap.size w w') : Acts w' ao len z := fun j hj => by
  obtain ⟨b, o, e, e0, e1, e2, e3, e4⟩ := h j hj
  exact ⟨b, o, e, cell_keep hb e0, cell_keep hb e1, cell_keep hb e2, cell_keep hb e3, cell_keep hb e4⟩
/-- A spot's struct in a block of its own. -/
def SBox (w : World) (T : Nat) (x : S) : Prop := w.heap[T]? = some (.cells #[.int .i64 x.s, .int .i64 x.p] 24 (0, 0))
theorem SBox.cells {w : World} {T : Nat} {x : S} (h : SBox w T x) : w.cell? ⟨T, 0, none⟩ = some (.int .i64 x.s) ∧ w.cell? ⟨T, 1, none⟩ = some (.int .i64 x.p) := ⟨cell_of_row w T 0 _ 24 _ h, cell_of_row w T 1 _ 24 _ h⟩
theorem SBox.lt {w : World} {T : Nat} {x : S} (h : SBox w T x) : T < w.heap.size := lt_of_block h
theorem SBox.chg {w w' : World} {T : Nat} {x : S} {F F' : List Nat} (h : SBox w T x) (hc : Chg F F' w w') (hf : T ∉ F) : SBox w' T x := (hc.block h.lt hf).trans h
theorem SBox.below {w w' : World} {T : Nat} {x : S} (h : SBox w T x) (hb : Below w.heap.size w w') : SBox w' T x := (hb.block T h.lt).trans h
theorem ns_keep {w w1 w2 : World} {A B : Nat} {a b n g : Int}
    (h : w1.cell? ⟨A, 1, none⟩ = some (.int .i64 a) ∧ w1.cell? ⟨A, 2, none⟩ = some (.int .i64 b) ∧ w1.cell? ⟨A, 3, none⟩ = some (.int .i64 n) ∧ w1.cell? ⟨A, 4, none⟩ = some (.int .i64 g) ∧ w1.cell? ⟨B, 0, none⟩ = some (.int .i64 0) ∧ w1.cell? ⟨B, 1, none⟩ = some (.int .i64 0) ∧ Below w.heap.size w w1) (hb : Below w1.heap.size w1 w2) :
    w2.cell? ⟨A, 1, none⟩ = some (.int .i64 a) ∧ w2.cell? ⟨A, 2, none⟩ = some (.int .i64 b) ∧ w2.cell? ⟨A, 3, none⟩ = some (.int .i64 n) ∧ w2.cell? ⟨A, 4, none⟩ = some (.int .i64 g) ∧ w2.cell? ⟨B, 0, none⟩ = some (.int .i64 0) ∧ w2.cell? ⟨B, 1, none⟩ = some (.int .i64 0) ∧ Below w.heap.size w w2 :=
  ⟨cell_keep hb h.1, cell_keep hb h.2.1, cell_keep hb h.2.2.1, cell_keep hb h.2.2.2.1, cell_keep hb h.2.2.2.2.1, cell_keep hb h.2.2.2.2.2.1, h.2.2.2.2.2.2.trans (hb.mono h.2.2.2.2.2.2.size)⟩
set_option maxRecDepth 100000 in
set_option maxHeartbeats 4000000 in
theorem none_law (k a b n g : Int) (w : World) : Calls Try.prog 8 #[.agg #[.int .i64 k, .int .i64 a, .int .i64 b, .int .i64 n, .int .i64 g]] w fun e w' => e = .returned (.bool true) ∧ Below w.heap.size w w' := by
  have hb0 : Below w.heap.size w (w.alloc (.cells #[.int .i64 k, .int .i64 a, .int .i64 b, .int .i64 n, .int .i64 g] 31)) := (Below.refl _ w).alloc (Nat.le_refl _) _
  have hX := heap_alloc_new w (.cells #[.int .i64 k, .int .i64 a, .int .i64 b, .int .i64 n, .int .i64 g] 31)
  have hq : ∀ w', Below (w.alloc (.cells #[.int .i64 k, .int .i64 a, .int .i64 b, .int .i64 n, .int .i64 g] 31)).heap.size (w.alloc (.cells #[.int .i64 k, .int .i64 a, .int .i64 b, .int .i64 n, .int .i64 g] 31)) w' → True := fun _ _ => trivial
  go_enter Try.func8, Try.ntmps8
  go_upto_region 1 with fail
  generalize w.alloc (.cells #[.int .i64 k, .int .i64 a, .int .i64 b, .int .i64 n, .int .i64 g] 31) = w0 at *
  have q1 := cell_of_row w0 w.heap.size 1 _ 31 _ hX
  have q2 := cell_of_row w0 w.heap.size 2 _ 31 _ hX
  have q3 := cell_of_row w0 w.heap.size 3 _ 31 _ hX
  have q4 := cell_of_row w0 w.heap.size 4 _ 31 _ hX
  replace q1 : w0.cell? ⟨w.heap.size, 1, none⟩ = some (.int .i64 a) := q1
  replace q2 : w0.cell? ⟨w.heap.size, 2, none⟩ = some (.int .i64 b) := q2
  replace q3 : w0.cell? ⟨w.heap.size, 3, none⟩ = some (.int .i64 n) := q3
  replace q4 : w0.cell? ⟨w.heap.size, 4, none⟩ = some (.int .i64 g) := q4
  clear hX hq
  go_wp2_with fail
  refine (age_nil a b w0).mono ?_
  rintro e w1 ⟨rfl, hb1⟩
  replace q1 := cell_keep hb1 q1
  replace q2 := cell_keep hb1 q2
  replace q3 := cell_keep hb1 q3
  replace q4 := cell_keep hb1 q4
  replace hb0 := hb0.trans (hb1.mono hb0.size)
  clear hb1
  go_wp2_with fail
  refine (oldest_nil w1).mono ?_
  rintro e w2 ⟨rfl, hb1⟩
  replace q1 := cell_keep hb1 q1
  replace q2 := cell_keep hb1 q2
  replace q3 := cell_keep hb1 q3
  replace q4 := cell_keep hb1 q4
  replace hb0 := hb0.trans (hb1.mono hb0.size)
  clear hb1
  go_upto_region 4 with fail
  have hA : Below w2.heap.size w2 (w2.alloc (.cells #[.int .i64 0, .int .i64 0] 24)) := (Below.refl _ w2).alloc (Nat.le_refl _) _
  have hh := heap_alloc_new w2 (.cells #[.int .i64 0, .int .i64 0] 24)
  replace q1 := cell_keep hA q1
  replace q2 := cell_keep hA q2
  replace q3 := cell_keep hA q3
  replace q4 := cell_keep hA q4
  replace hb0 := hb0.trans (hA.mono hb0.size)
  have o0 : (w2.alloc (.cells #[.int .i64 0, .int .i64 0] 24)).cell? ⟨w2.heap.size, 0, none⟩ = some (.int .i64 0) := cell_of_row _ w2.heap.size 0 _ 24 _ hh
  have o1 : (w2.alloc (.cells #[.int .i64 0, .int .i64 0] 24)).cell? ⟨w2.heap.size, 1, none⟩ = some (.int .i64 0) := cell_of_row _ w2.heap.size 1 _ 24 _ hh
  clear hA hh
  generalize w2.alloc (.cells #[.int .i64 0, .int .i64 0] 24) = w3 at *
  generalize w2.heap.size = B at *
  go_region_held3 (fun w' => w'.cell? ⟨w.heap.size, 1, none⟩ = some (.int .i64 a) ∧ w'.cell? ⟨w.heap.size, 2, none⟩ = some (.int .i64 b) ∧ w'.cell? ⟨w.heap.size, 3, none⟩ = some (.int .i64 n) ∧ w'.cell? ⟨w.heap.size, 4, none⟩ = some (.int .i64 g) ∧ w'.cell? ⟨B, 0, none⟩ = some (.int .i64 0) ∧ w'.cell? ⟨B, 1, none⟩ = some (.int .i64 0) ∧ Below w.heap.size w w') (first | exact ns_keep (by assumption) hbA | exact ns_keep (by assumption) hbB | exact ns_keep (by assumption) hbC | exact ns_keep (by assumption) hbD | exact ns_keep (by assumption) hbE | exact ⟨q1, q2, q3, q4, o0, o1, hb0.drew⟩ | go_keep)
    (first
      | (go_at_call 10; refine (awake_any _).mono ?_; rintro e wa ⟨rfl, hbA⟩)
      | (go_at_call 23; refine (len_nil _).mono ?_; rintro e _ ⟨rfl, rfl⟩)
      | (go_at_call 19; refine (all_nil _).mono ?_; rintro e _ ⟨rfl, rfl⟩)
      | (go_at_call 14; refine (sweep_nil n g _).mono ?_; rintro e wb ⟨rfl, hbB⟩)
      | (go_at_call 11; refine (add_nil a b _).mono ?_; rintro e wc ⟨rfl, hbC⟩)
      | (go_at_call 12; refine (del_nil a b _).mono ?_; rintro e wd ⟨rfl, hbD⟩)
      | (go_at_call 13; refine (touch_nil a b _).mono ?_; rintro e we ⟨rfl, hbE⟩))
  rename_i hH
  have HH := Lib.hid hH.2.2.2.2.2.2
  clear hH
  go_wp2_with fail
  exact bodyPost_ret (results_tmp rfl _ _ _) rfl ⟨rfl, HH.out⟩
set_option maxRecDepth 100000 in
set_option maxHeartbeats 4000000 in
theorem chance_law (ao : Option Addr) (len cap : Nat) (z : Nat → Nat → Int) (x : S) (w : World) (hlc : len ≤ cap) (hcm : cap ≤ maxLen) (hA : Acts w ao len z) :
    Calls Try.prog 3 #[.slice ao len cap, .agg #[.int .i64 x.s, .int .i64 x.p]] w fun e w' => e = .returned (.bool true) ∧ Below w.heap.size w w' := by
  have hlen : len ≤ 9223372036854775807 := by unfold maxLen at hcm; omega
  have hb0 : Below w.heap.size w (w.alloc (.cells #[.int .i64 x.s, .int .i64 x.p] 24)) := (Below.refl _ w).alloc (Nat.le_refl _) _
  have hX := heap_alloc_new w (.cells #[.int .i64 x.s, .int .i64 x.p] 24)
  go_enter Try.func3, Try.ntmps3
  go_wp2_with fail
  generalize w.alloc (.cells #[.int .i64 x.s, .int .i64 x.p] 24) = w0 at *
  refine (new_any w0).mono ?_
  rintro e w1 ⟨rfl, hb1, hk1⟩
  have hX1 := SBox.below (x := x) hX hb1
  have HT : RowKit.Hid (Below w.heap.size w w1 ∧ w.heap.size < w0.heap.size) := Lib.hid ⟨hb0.trans (hb1.mono hb0.size), SBox.lt (x := x) hX⟩
  have HK := Lib.hid hk1
  clear hb0 hb1 hk1 hX
  generalize w0.heap.size = g at *
  go_wp2_with fail
  refine (awake_any w1).mono ?_
  rintro e w2 ⟨rfl, hb2⟩
  have hX2 := hX1.below hb2
  have HK2 := Lib.hid (HK.out.below hb2)
  have HT2 : RowKit.Hid (Below w.heap.size w w2 ∧ w.heap.size < g) := Lib.hid ⟨HT.out.1.trans (hb2.mono HT.out.1.size), HT.out.2⟩
  clear hb2 HK HT hX1
  obtain ⟨d0, d1⟩ := hX2.cells
  go_wp2_with fail
  refine (add_any g [g] [] x w2 HK2.out (by decide)).mono ?_
  rintro e w3 ⟨rfl, F, hc3, hk3⟩
  rw [show acode [] x = 0 from rfl]
  have hg3 : ∀ b, b ∈ F → w.heap.size < b := fun b hb => by
    rcases hc3.2.2.2.2.2 b hb with h | h
    · simp at h; rw [h]; exact HT2.out.2
    · exact Nat.lt_of_lt_of_le hX2.lt h
  have hX3 := hX2.chg hc3 (by simp; exact Nat.ne_of_lt HT2.out.2)
  have HI : RowKit.Hid (Clk w3 g F (addK [] x) ∧ SBox w3 w.heap.size x ∧ (∀ b, b ∈ F → w.heap.size < b) ∧ Below w.heap.size w w3 ∧ Fresh (addK [] x) x ∧ (addK [] x).length ≤ 1) := Lib.hid ⟨hk3, hX3, hg3, HT2.out.1.trans (hc3.below (fun b hb => by simp at hb; rw [hb]; exact Nat.le_of_lt HT2.out.2) HT2.out.1.size), Fresh.new x, addK_length [] x⟩
  have HA := Lib.hid hA
  clear hc3 hk3 hg3 hX3 hX2 HK2 HT2 d0 d1 hA
  go_wp2_with fail
  go_loopw [6] (fun s wr => ∃ i F ks, i ≤ len ∧ i ≤ 80 ∧ s = .int .i64 (i : Nat) ∧ RowKit.Hid (Clk wr g F ks ∧ SBox wr w.heap.size x ∧ (∀ b, b ∈ F → w.heap.size < b) ∧ Below w.heap.size w wr ∧ Fresh ks x ∧ ks.length ≤ i + 1)) (fun s _ => len - (intOf s).toNat)
  case atStart => exact ⟨0, F, addK [] x, Nat.zero_le _, Nat.zero_le _, rfl, HI⟩
  case round =>
    obtain ⟨i, F, ks, hi, hi80, rfl, HM⟩ := hrel
    by_cases hlt : i < len ∧ i < 80
    · obtain ⟨hlt, h80⟩ := hlt
      obtain ⟨lb, lo, rfl, e0, e1, e2, e3, e4⟩ := (HA.out.below HM.out.2.2.2.1) i hlt
      go_upto_region 8 with fail
      have hA5 : Below wr.heap.size wr (wr.alloc (.cells #[.int .i64 (z i 0), .int .i64 (z i 1), .int .i64 (z i 2), .int .i64 (z i 3), .int .i64 (z i 4)] 31)) := (Below.refl _ wr).alloc (Nat.le_refl _) _
      have hB5 := heap_alloc_new wr (.cells #[.int .i64 (z i 0), .int .i64 (z i 1), .int .i64 (z i 2), .int .i64 (z i 3), .int .i64 (z i 4)] 31)
      have HM5 : RowKit.Hid (Clk (wr.alloc (.cells #[.int .i64 (z i 0), .int .i64 (z i 1), .int .i64 (z i 2), .int .i64 (z i 3), .int .i64 (z i 4)] 31)) g F ks ∧ SBox (wr.alloc (.cells #[.int .i64 (z i 0), .int .i64 (z i 1), .int .i64 (z i 2), .int .i64 (z i 3), .int .i64 (z i 4)] 31)) w.heap.size x ∧ (∀ b, b ∈ F → w.heap.size < b) ∧ Below w.heap.size w (wr.alloc (.cells #[.int .i64 (z i 0), .int .i64 (z i 1), .int .i64 (z i 2), .int .i64 (z i 3), .int .i64 (z i 4)] 31)) ∧ Fresh ks x ∧ ks.length ≤ i + 1) := Lib.hid ⟨HM.out.1.below hA5, HM.out.2.1.below hA5, HM.out.2.2.1, HM.out.2.2.2.1.trans (hA5.mono HM.out.2.2.2.1.size), HM.out.2.2.2.2⟩
      have HFB := Lib.hid HM.out.1.lt
      clear HM hA5 e0 e1 e2 e3 e4
      generalize wr.heap.size = B at *
      generalize wr.alloc (.cells #[.int .i64 (z i 0), .int .i64 (z i 1), .int .i64 (z i 2), .int .i64 (z i 3), .int .i64 (z i 4)] 31) = w4 at *
      have f0 := cell_of_row w4 B 0 _ 31 _ hB5
      have f1 := cell_of_row w4 B 1 _ 31 _ hB5
      have f2 := cell_of_row w4 B 2 _ 31 _ hB5
      have f3 := cell_of_row w4 B 3 _ 31 _ hB5
      have f4 := cell_of_row w4 B 4 _ 31 _ hB5
      replace f0 : w4.cell? ⟨B, 0, none⟩ = some (.int .i64 (z i 0)) := f0
      replace f1 : w4.cell? ⟨B, 1, none⟩ = some (.int .i64 (z i 1)) := f1
      replace f2 : w4.cell? ⟨B, 2, none⟩ = some (.int .i64 (z i 2)) := f2
      replace f3 : w4.cell? ⟨B, 3, none⟩ = some (.int .i64 (z i 3)) := f3
      replace f4 : w4.cell? ⟨B, 4, none⟩ = some (.int .i64 (z i 4)) := f4
      clear hB5
      generalize z i 0 = c0 at *
      generalize z i 1 = c1 at *
      generalize z i 2 = c2 at *
      generalize z i 3 = c3 at *
      generalize z i 4 = c4 at *
      obtain ⟨d0, d1⟩ := HM5.out.2.1.cells
      have HNEXT : RowKit.Hid (∀ w5 F' ks', Chg F F' w4 w5 → Clk w5 g F' ks' → Fresh ks' x → ks'.length ≤ i + 2 → RowKit.Hid (Clk w5 g F' ks' ∧ SBox w5 w.heap.size x ∧ (∀ b, b ∈ F' → w.heap.size < b) ∧ Below w.heap.size w w5 ∧ Fresh ks' x ∧ ks'.length ≤ i + 1 + 1)) := Lib.hid fun w5 F' ks' hc hk hf hl => Lib.hid ⟨hk, HM5.out.2.1.chg hc (fun h => Nat.lt_irrefl _ (HM5.out.2.2.1 _ h)), fun b hb => by
        rcases hc.2.2.2.2.2 b hb with h | h
        · exact HM5.out.2.2.1 b h
        · exact Nat.lt_of_lt_of_le HM5.out.2.1.lt h, HM5.out.2.2.2.1.trans (hc.below (fun b hb => Nat.le_of_lt (HM5.out.2.2.1 b hb)) HM5.out.2.2.2.1.size), hf, hl⟩
      by_cases k01 : c0 = 0 ∨ c0 = 1
      · have HK01 := Lib.hid k01
        rcases k01 with rfl | rfl
        all_goals
          go_wp2_with fail
          refine (add_any g F ks ⟨c1, c2⟩ w4 HM5.out.1 (by have := HM5.out.2.2.2.2.2; omega)).mono ?_
          rintro e w5 ⟨rfl, F', hc, hk⟩
          have HM6 := HNEXT.out w5 F' _ hc hk (HM5.out.2.2.2.2.1.add ⟨c1, c2⟩) (by have := HM5.out.2.2.2.2.2; have := addK_length ks ⟨c1, c2⟩; omega)
          clear hc hk HM5 HNEXT f0 f1 f2 f3 f4 d0 d1
          go_wp2_with fail
          exact ⟨⟨i + 1, F', _, hlt, h80, by simp, HM6⟩, by simp [intOf]; omega⟩
      · by_cases k2 : c0 = 2
        · subst k2
          by_cases hxx : (⟨c1, c2⟩ : S) = x
          · cases hxx
            have HM6 := HNEXT.out w4 F _ (Chg.refl _ _) HM5.out.1 HM5.out.2.2.2.2.1 (by have := HM5.out.2.2.2.2.2; omega)
            clear HM5 HNEXT
            dsimp only at d0 d1
            go_wp2_with fail
            exact ⟨⟨i + 1, F, _, hlt, h80, by simp, HM6⟩, by simp [intOf]; omega⟩
          · by_cases h1 : c1 = x.s
            · have h2 : c2 ≠ x.p := fun h2 => hxx (by cases x; simp_all)
              subst h1
              go_wp2_with fail
              refine (del_any g F ks ⟨x.s, c2⟩ w4 HM5.out.1 (by have := HM5.out.2.2.2.2.2; omega)).mono ?_
              rintro e w5 ⟨rfl, F', hc, hk⟩
              have HM6 := HNEXT.out w5 F' _ hc hk (HM5.out.2.2.2.2.1.del hxx) (by have := HM5.out.2.2.2.2.2; have := delK_length ks ⟨x.s, c2⟩; omega)
              clear hc hk HM5 HNEXT f0 f1 f2 f3 f4 d0 d1
              go_wp2_with fail
              exact ⟨⟨i + 1, F', _, hlt, h80, by simp, HM6⟩, by simp [intOf]; omega⟩
            · go_wp2_with fail
              refine (del_any g F ks ⟨c1, c2⟩ w4 HM5.out.1 (by have := HM5.out.2.2.2.2.2; omega)).mono ?_
              rintro e w5 ⟨rfl, F', hc, hk⟩
              have HM6 := HNEXT.out w5 F' _ hc hk (HM5.out.2.2.2.2.1.del hxx) (by have := HM5.out.2.2.2.2.2; have := delK_length ks ⟨c1, c2⟩; omega)
              clear hc hk HM5 HNEXT f0 f1 f2 f3 f4 d0 d1
              go_wp2_with fail
              exact ⟨⟨i + 1, F', _, hlt, h80, by simp, HM6⟩, by simp [intOf]; omega⟩
        · by_cases k34 : c0 = 3 ∨ c0 = 4
          · have HK34 := Lib.hid k34
            rcases k34 with rfl | rfl
            all_goals
              go_wp2_with fail
              refine (touch_any g F ks ⟨c1, c2⟩ w4 HM5.out.1 (by have := HM5.out.2.2.2.2.2; omega)).mono ?_
              rintro e w5 ⟨rfl, hc, hk⟩
              have HM6 := HNEXT.out w5 F _ hc hk (HM5.out.2.2.2.2.1.touch ⟨c1, c2⟩) (by have := HM5.out.2.2.2.2.2; have := touchK_length ks ⟨c1, c2⟩; omega)
              clear hc hk HM5 HNEXT f0 f1 f2 f3 f4 d0 d1
              go_wp2_with fail
              exact ⟨⟨i + 1, F, _, hlt, h80, by simp, HM6⟩, by simp [intOf]; omega⟩
          · have n0 : (c0 == 0) = false := by rw [beq_eq_false_iff_ne]; omega
            have n1 : (c0 == 1) = false := by rw [beq_eq_false_iff_ne]; omega
            have n2 : (c0 == 2) = false := by rw [beq_eq_false_iff_ne]; omega
            have n3 : (c0 == 3) = false := by rw [beq_eq_false_iff_ne]; omega
            have n4 : (c0 == 4) = false := by rw [beq_eq_false_iff_ne]; omega
            clear k01 k2 k34
            go_wp2_with fail
            refine (touch_any g F ks x w4 HM5.out.1 (by have := HM5.out.2.2.2.2.2; omega)).mono ?_
            rintro e w5 ⟨rfl, hc, hk⟩
            rw [HM5.out.2.2.2.2.1.code]
            have g3 := hc.cell f3 (fun h => Nat.lt_irrefl _ (HFB.out _ h))
            have g4 := hc.cell f4 (fun h => Nat.lt_irrefl _ (HFB.out _ h))
            have HC := Lib.hid hc
            have HK := Lib.hid hk
            have HTT := Lib.hid HM5.out.2.2.2.2.1.touched
            have HFR := Lib.hid (HM5.out.2.2.2.2.1.touch x)
            have HLE : RowKit.Hid ((touchK ks x).length ≤ i + 1) := Lib.hid (by rw [touchK_length]; exact HM5.out.2.2.2.2.2)
            clear hc hk f0 f1 f2 f3 f4 d0 d1
            generalize touchK ks x = ks5 at *
            go_wp2_with fail
            refine (sweep_any g F ks5 c3 c4 w5 HK.out (by have := HLE.out; omega)).mono ?_
            rintro e w6 ⟨v, F', rfl, hv, hk, hc, hsep⟩
            have HM6 := HNEXT.out w6 F' _ (HC.out.trans (hc.sub (fun b hb => List.mem_append_left _ hb))) hk (HFR.out.sweep HTT.out c3) (by rw [sweepK_length]; have := HLE.out; omega)
            have HNOT := Lib.hid (told_not HTT.out c3 c4)
            have hTl : (sweepT ks5 c3 c4).length ≤ 1000 := by
              have h1 : ∀ l : List K, (l.flatMap (swT c4)).length ≤ l.length := fun l => by
                induction l with
                | nil => simp
                | cons a l ih =>
                  rw [List.flatMap_cons, List.length_append, List.length_cons]
                  have : (swT c4 a).length ≤ 1 := by unfold swT; split <;> (try split) <;> simp
                  omega
              have h2 := h1 (ks5.take (cnt ks5 c3))
              have h3 : (ks5.take (cnt ks5 c3)).length ≤ ks5.length := by rw [List.length_take]; exact Nat.min_le_right _ _
              have h4 := HLE.out
              unfold sweepT
              omega
            have hb6 := HM6.out.2.1
            have HV := Lib.hid hv
            obtain ⟨d0, d1⟩ := hb6.cells
            clear hv hk hc hsep HC HK HTT HFR HLE HM5 HNEXT hb6 g3 g4
            generalize sweepK ks5 c3 = ks6 at *
            generalize sweepT ks5 c3 c4 = T at *
            obtain ⟨aov, capv, rfl, _, _⟩ := Sq.slice HV.out
            go_wp2_with fail
            go_loopw [9] (fun s2 wq => ∃ k q : Nat, k ≤ T.length ∧ s2 = .int .i64 (k : Nat) ∧ wq = w6.drewN q) (fun s2 _ => T.length - (intOf s2).toNat)
            case atStart => exact ⟨0, 0, Nat.zero_le _, rfl, rfl⟩
            case round =>
              obtain ⟨k, q, hk, rfl, rfl⟩ := hrel
              by_cases hkl : k < T.length
              · obtain ⟨bv, cv, hvv, hbv, hcell⟩ := HV.out.read (by intro e; rw [e] at hkl; simp at hkl)
                cases hvv
                have hy := List.getElem?_eq_getElem hkl
                generalize T[k] = y at hy
                obtain ⟨v0, v1⟩ := hcell k y hy
                have hyx : y ≠ x := fun e => HNOT.out (e ▸ List.mem_of_getElem? hy)
                have hki : ((k : Nat) : Int) < ((T.length : Nat) : Int) := by omega
                clear hcell hy
                have HYX := Lib.hid hyx
                clear hyx
                by_cases hs : y.s = x.s
                · have hp : ¬ y.p = x.p := fun hp => HYX.out (by cases y; cases x; simp_all)
                  rw [hs] at v0
                  go_wp2_with fail
                  go_quiet (fail)
                  go_wp2_with fail
                  exact ⟨⟨k + 1, q + nq, hkl, by simp, rfl⟩, by simp [intOf]; omega⟩
                · go_wp2_with fail
                  go_quiet (fail)
                  go_wp2_with fail
                  exact ⟨⟨k + 1, q + nq, hkl, by simp, rfl⟩, by simp [intOf]; omega⟩
              · go_wp2_with fail
                exact ⟨⟨i + 1, F', ks6, hlt, h80, by simp, Lib.hid ⟨HM6.out.1.drewN q, HM6.out.2.1, HM6.out.2.2.1, below_drewN HM6.out.2.2.2.1 q, HM6.out.2.2.2.2⟩⟩, by simp [intOf]; omega⟩
    · obtain ⟨d0, d1⟩ := HM.out.2.1.cells
      by_cases hil : i < len
      · have h6 : decide ((i : Int) < 80) = false := decide_eq_false (by omega)
        have h5 : decide ((i : Int) < (len : Int)) = true := decide_eq_true (by omega)
        go_wp2_with fail
        refine (age_any g F ks x wr HM.out.1 (by have := HM.out.2.2.2.2.2; omega)).mono ?_
        rintro e w5 ⟨rfl, hb5⟩
        rw [HM.out.2.2.2.2.1.age]
        have HB5 := Lib.hid (HM.out.2.2.2.1.trans (hb5.mono HM.out.2.2.2.1.size))
        clear hb5 d0 d1
        go_wp2_with fail
        exact bodyPost_ret (results_tmp rfl _ _ _) rfl ⟨rfl, HB5.out⟩
      · have h5 : decide ((i : Int) < (len : Int)) = false := decide_eq_false (by omega)
        go_wp2_with fail
        refine (age_any g F ks x wr HM.out.1 (by have := HM.out.2.2.2.2.2; omega)).mono ?_
        rintro e w5 ⟨rfl, hb5⟩
        rw [HM.out.2.2.2.2.1.age]
        have HB5 := Lib.hid (HM.out.2.2.2.1.trans (hb5.mono HM.out.2.2.2.1.size))
        clear hb5 d0 d1
        go_wp2_with fail
        exact bodyPost_ret (results_tmp rfl _ _ _) rfl ⟨rfl, HB5.out⟩

end Go.Proofs.Ytehbonhdhblpgaa
