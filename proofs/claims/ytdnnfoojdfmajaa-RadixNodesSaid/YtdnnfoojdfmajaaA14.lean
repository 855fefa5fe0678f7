/- Parts of the proofs of layer 19 (radix): contracts of its functions, and the laws' walks. -/
import Derived.Test.YtdnnfoojdfmajaaProg
import Derived.WalkKit
import Derived.WalkSpells
import Derived.WalkLawsBesides
import Derived.BigQuiet
import Derived.Deep.QuietTactic
import Derived.Lib.Hide
import Derived.Deep.RegionHeld3
import Derived.Deep.DeepCutAuto
import Derived.KernelRfl
import Derived.Deep.OwnRows
import Derived.Laws.CopyOwn
import Derived.Laws.CopyRow
import Derived.StillTailTactics
import Derived.Deep.RegionLaw
import Derived.Handy
import Derived.Deep.CutRange
import Derived.Deep.CutBlock
import Derived.Test.YtdnnfoojdfmajaaA13
namespace Go.Proofs.Ytdnnfoojdfmajaa
open Go.RowKit
set_option linter.unusedVariables false
set_option linter.unusedSimpArgs false

theorem fst_ex {L : List X} {page mark : Int} (h : ∃ y ∈ L, OkX page mark y) : ∃ i x, L[i]? = some x ∧ OkX page mark x ∧ ∀ y ∈ L.take i, ¬ OkX page mark y := by
  induction L with
  | nil => obtain ⟨y, hy, _⟩ := h; simp at hy
  | cons a l ih =>
    by_cases ha : OkX page mark a
    · exact ⟨0, a, rfl, ha, fun y hy => by simp at hy⟩
    · obtain ⟨i, x, h1, h2, h3⟩ := ih (by
        obtain ⟨y, hy, h⟩ := h
        rcases List.mem_cons.1 hy with rfl | hy
        · exact absurd h ha
        · exact ⟨y, hy, h⟩)
      refine ⟨i + 1, x, h1, h2, fun y hy => ?_⟩
      rw [List.take_succ_cons] at hy
      rcases List.mem_cons.1 hy with rfl | hy
      · exact ha
      · exact h3 y hy
theorem fst_min {L : List X} (hg : Good L) {page mark : Int} {i : Nat} {x x' : X} (h1 : L[i]? = some x) (h2 : OkX page mark x) (h3 : ∀ y ∈ L.take i, ¬ OkX page mark y) (h4 : x' ∈ L) (h5 : OkX page mark x') (h6 : ∀ y ∈ L, OkX page mark y → x'.p ≤ y.p) : x' = x := by
  obtain ⟨j, hj⟩ := List.mem_iff_getElem?.1 h4
  obtain ⟨hil, hx⟩ := List.getElem?_eq_some_iff.1 h1
  obtain ⟨hjl, hx'⟩ := List.getElem?_eq_some_iff.1 hj
  rcases Nat.lt_trichotomy j i with h | h | h
  · exact absurd h5 (h3 x' (List.mem_iff_getElem?.2 ⟨j, by rw [List.getElem?_take, if_pos h]; exact hj⟩))
  · subst h; rw [h1] at hj; exact (Option.some.inj hj).symm
  · have := List.pairwise_iff_getElem.1 hg.2 i j hil hjl h
    rw [hx, hx'] at this
    have := h6 x (List.mem_of_getElem? h1) h2
    have : 0 < 8 ^ x.k := Nat.pow_pos (by decide)
    omega
/-- What Next answers: the number of the entry, or none. -/
def NxV (L : List X) (page mark : Int) (a b c : Int) : Prop := (¬ (-1 ≤ mark ∧ mark < 3) ∧ a = 0 ∧ b = 0 ∧ c = 2) ∨ ((-1 ≤ mark ∧ mark < 3) ∧ (∀ y ∈ L, ¬ OkX page mark y) ∧ a = 0 ∧ b = 0 ∧ c = 6) ∨ ((-1 ≤ mark ∧ mark < 3) ∧ ∃ i x, L[i]? = some x ∧ OkX page mark x ∧ (∀ y ∈ L.take i, ¬ OkX page mark y) ∧ a = (x.p : Nat) ∧ b = 3 * ((x.k : Nat) : Int) ∧ c = 0)
theorem nxv_ex (L : List X) (page mark : Int) : ∃ a b c, NxV L page mark a b c := by
  by_cases hm : -1 ≤ mark ∧ mark < 3
  · by_cases h : ∃ y ∈ L, OkX page mark y
    · obtain ⟨i, x, h1, h2, h3⟩ := fst_ex h
      exact ⟨_, _, _, .inr (.inr ⟨hm, i, x, h1, h2, h3, rfl, rfl, rfl⟩)⟩
    · exact ⟨_, _, _, .inr (.inl ⟨hm, fun y hy h' => h ⟨y, hy, h'⟩, rfl, rfl, rfl⟩)⟩
  · exact ⟨_, _, _, .inl ⟨hm, rfl, rfl, rfl⟩⟩
theorem next_prg {L : List X} {page mark a b c : Int} (hv : NxV L page mark a b c) {t : Nat} {σ : St} (hab : Ab σ L) (hg : Good L) (many nodes : Int) (F : List Nat) (w : World) (h : Hp w t σ many nodes F) :
    Calls Try.prog 11 #[.pointer (some ⟨t, 0, none⟩), .int .i64 page, .int .i64 mark] w fun e w' => e = .returned (.tuple #[.agg #[.int .i64 a, .int .i64 b], .int .i64 c]) ∧ Below w.heap.size w w' := by
  rcases hv with ⟨hm, rfl, rfl, rfl⟩ | ⟨hm, hn, rfl, rfl, rfl⟩ | ⟨hm, i, x, h1, h2, h3, rfl, rfl, rfl⟩
  · exact Next_arg page mark t w hm
  · refine (Next_any page mark t σ L many nodes F w hm hab hg h).mono ?_
    rintro e w' ⟨hb, ⟨x, hx, hok, _⟩ | ⟨_, rfl⟩⟩
    · exact absurd hok (hn x hx)
    · exact ⟨rfl, hb⟩
  · refine (Next_any page mark t σ L many nodes F w hm hab hg h).mono ?_
    rintro e w' ⟨hb, ⟨x', hx', hok, hmin, rfl⟩ | ⟨hn, _⟩⟩
    · have := fst_min hg h1 h2 h3 hx' hok hmin
      subst this
      exact ⟨rfl, hb⟩
    · exact absurd h2 (hn x (List.mem_of_getElem? h1))
theorem next_ref {L : List X} {page mark a b c : Int} (hv : NxV L page mark a b c) {r : Nat} (hg : Good L) (G : List Nat) (w : World) (h : Rt w r G L) :
    Calls Try.prog 12 #[.pointer (some ⟨r, 0, none⟩), .int .i64 page, .int .i64 mark] w fun e w' => e = .returned (.tuple #[.agg #[.int .i64 a, .int .i64 b], .int .i64 c]) ∧ Below w.heap.size w w' := by
  rcases hv with ⟨hm, rfl, rfl, rfl⟩ | ⟨hm, hn, rfl, rfl, rfl⟩ | ⟨hm, i, x, h1, h2, h3, rfl, rfl, rfl⟩
  · exact (RNext_arg page mark r w hm).mono fun e w' h => ⟨h.2, h.1⟩
  · refine (RNext_any page mark r G L w hm h hg).mono ?_
    rintro e w' ⟨hb, ⟨i, x, hx, hok, _⟩ | ⟨_, rfl⟩⟩
    · exact absurd hok (hn x (List.mem_of_getElem? hx))
    · exact ⟨rfl, hb⟩
  · refine (RNext_any page mark r G L w hm h hg).mono ?_
    rintro e w' ⟨hb, ⟨j, x', hx', hok, hmin, rfl⟩ | ⟨hn, _⟩⟩
    · have : i = j := by
        rcases Nat.lt_trichotomy i j with hl | hl | hl
        · exact absurd h2 (hmin x (List.mem_iff_getElem?.2 ⟨i, by rw [List.getElem?_take, if_pos hl]; exact h1⟩))
        · exact hl
        · exact absurd hok (h3 x' (List.mem_iff_getElem?.2 ⟨j, by rw [List.getElem?_take, if_pos hl]; exact hx'⟩))
      subst this
      rw [h1] at hx'
      cases hx'
      exact ⟨rfl, hb⟩
    · exact absurd h2 (hn x (List.mem_of_getElem? h1))
theorem blk2 {w : World} {b : Nat} {u v : Value} (hz : w.heap[b]? = some (.cells #[u, v] 29 (0, 0))) : w.cell? ⟨b, 0, none⟩ = some u ∧ w.cell? ⟨b, 1, none⟩ = some v := ⟨cell_of_row _ _ 0 _ 29 _ hz, cell_of_row _ _ 1 _ 29 _ hz⟩
set_option maxRecDepth 100000 in
set_option maxHeartbeats 8000000 in
theorem next_law (ao : Option Addr) (len cap : Nat) (z : Nat → Ac) (page mark : Int) (w : World) (hlc : len ≤ cap) (hcm : cap ≤ maxLen) (hA : Acts w ao len z) : Calls Try.prog 3 #[.slice ao len cap, .int .i64 page, .int .i64 mark] w fun e w' => e = .returned (.bool true) ∧ Below w.heap.size w w' := by
  go_enter Try.func3, Try.ntmps3
  go_wp2_with fail
  refine (made_any ao len cap z w hlc hcm hA).mono ?_
  rintro e w1 ⟨t, r, σ, L, F, G, rfl, hm, hb⟩
  have HM := Lib.hid (And.intro hm hb)
  clear hA hm hb
  go_upto_region 4 with (go_at_call 10; refine (awake_any w1).mono ?_; rintro e w2 ⟨rfl, hb2⟩; have HB2 := Lib.hid hb2; clear hb2)
  have HT := Lib.hid (And.intro (HM.out.1.1.below HB2.out) (And.intro (HM.out.2.trans (HB2.out.mono HM.out.2.size)) HM.out.1.2))
  clear HM HB2
  obtain ⟨a, b, c, hv⟩ := nxv_ex L page mark
  have HV := Lib.hid hv
  clear hv
  go_upto_region 5 with (go_at_call 11; refine (next_prg HV.out HT.out.1.ab HT.out.1.gd _ _ F w2 HT.out.1.hp).mono ?_; rintro e w3 ⟨rfl, hb3⟩; have HB3 := Lib.hid hb3; clear hb3)
  have hA3 : Below w2.heap.size w2 (w3.alloc (.cells #[.int .i64 a, .int .i64 b] 29)) := HB3.out.alloc HB3.out.size _
  have HY := Lib.hid (blk2 (heap_alloc_new w3 (.cells #[.int .i64 a, .int .i64 b] 29)))
  have HT4 := Lib.hid (And.intro (HT.out.1.below hA3) (HT.out.2.1.trans (hA3.mono HT.out.2.1.size)))
  clear hA3 HT HB3
  generalize w3.alloc (.cells #[.int .i64 a, .int .i64 b] 29) = w4 at *
  generalize w3.heap.size = B3 at *
  go_upto_region 6 with (go_at_call 12; refine (next_ref HV.out HT4.out.1.gd G w4 HT4.out.1.rt).mono ?_; rintro e w5 ⟨rfl, hb5⟩; have HB5 := Lib.hid hb5; clear hb5)
  have hA5 : Below w4.heap.size w4 (w5.alloc (.cells #[.int .i64 a, .int .i64 b] 29)) := HB5.out.alloc HB5.out.size _
  obtain ⟨z0, z1⟩ := blk2 (heap_alloc_new w5 (.cells #[.int .i64 a, .int .i64 b] 29))
  have y0 := cell_keep hA5 HY.out.1
  have y1 := cell_keep hA5 HY.out.2
  have HB6 := Lib.hid (HT4.out.2.trans (hA5.mono HT4.out.2.size))
  clear hA5
  generalize w5.alloc (.cells #[.int .i64 a, .int .i64 b] 29) = w6 at *
  generalize w5.heap.size = B5 at *
  go_wp2_with fail
  go_ret
  exact ⟨rfl, HB6.out⟩

end Go.Proofs.Ytdnnfoojdfmajaa
