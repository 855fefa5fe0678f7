/- Parts of the proofs of layer 19 (radix): contracts of its functions, and the laws' walks. -/
import Derived.Test.YtdnnfoojdfmajaaProg
import Derived.WalkKit
import Derived.WalkSpells
import Derived.WalkLawsBesides
import Derived.BigQuiet
import Derived.Deep.QuietTactic
import Derived.Lib.Hide
import Derived.Deep.RegionHeld3
import Derived.Deep.DeepCutAuto
import Derived.KernelRfl
import Derived.Deep.OwnRows
import Derived.Laws.CopyOwn
import Derived.Laws.CopyRow
import Derived.StillTailTactics
import Derived.Deep.RegionLaw
import Derived.Handy
import Derived.Deep.CutRange
import Derived.Deep.CutBlock
import Derived.Test.YtdnnfoojdfmajaaR3
namespace Go.Proofs.Ytdnnfoojdfmajaa
open Go.RowKit
set_option linter.unusedVariables false
set_option linter.unusedSimpArgs false

theorem CovI.iff {x : X} {g : Nat} : CovI x (g : Nat) ↔ Cov x g := by unfold CovI Cov; omega
theorem Good.idx {L : List X} (h : Good L) {i j : Nat} {x y : X} {f : Int} (hi : L[i]? = some x) (hj : L[j]? = some y) (cx : CovI x f) (cy : CovI y f) : i = j := by
  obtain ⟨_, hp⟩ := h
  rw [List.pairwise_iff_getElem] at hp
  obtain ⟨hi', rfl⟩ := List.getElem?_eq_some_iff.1 hi
  obtain ⟨hj', rfl⟩ := List.getElem?_eq_some_iff.1 hj
  unfold CovI at cx cy
  rcases Nat.lt_trichotomy i j with hij | rfl | hij
  · have := hp i j hi' hj' hij; omega
  · rfl
  · have := hp j i hj' hi' hij; omega
theorem RAt_ok (f : Int) (i : Nat) (x : X) (g : Nat) (F : List Nat) (L : List X) (w : World) (h : Rt w g F L) (hg : Good L) (hi : L[i]? = some x) (hc : CovI x f) :
    Calls Try.prog 13 #[.pointer (some ⟨g, 0, none⟩), .int .i64 f] w fun e w' => e = .returned (.int .i64 (i : Nat)) ∧ Below w.heap.size w w' :=
  (RAt_any f g F L w h hg).mono fun e w' ⟨hb, hr⟩ => by
    rcases hr with ⟨hn, _⟩ | ⟨j, y, hj, cy, rfl⟩
    · exact absurd hc (hn x (List.mem_of_getElem? hi))
    · rw [hg.idx hi hj hc cy]; exact ⟨rfl, hb⟩
theorem RAt_nf (f : Int) (g : Nat) (F : List Nat) (L : List X) (w : World) (h : Rt w g F L) (hg : Good L) (hn : ∀ x ∈ L, ¬ CovI x f) :
    Calls Try.prog 13 #[.pointer (some ⟨g, 0, none⟩), .int .i64 f] w fun e w' => e = .returned (.int .i64 (-1)) ∧ Below w.heap.size w w' :=
  (RAt_any f g F L w h hg).mono fun e w' ⟨hb, hr⟩ => by
    rcases hr with ⟨_, rfl⟩ | ⟨j, y, hj, cy, rfl⟩
    · exact ⟨rfl, hb⟩
    · exact absurd cy (hn y (List.mem_of_getElem? hj))
theorem RFind_out (f : Int) (g : Nat) (w : World) (hf : ¬ (0 ≤ f ∧ f < 4096)) :
    Calls Try.prog 35 #[.pointer (some ⟨g, 0, none⟩), .int .i64 f] w fun e w' => e = .returned (.tuple #[.int .i64 (-1), .int .i64 3]) ∧ Below w.heap.size w w' := by
  have HI := Lib.hid (fun W => page_any f W)
  simp only [decide_eq_false hf] at HI
  clear hf
  go_enter Try.func35, Try.ntmps35
  go_wp2_with (go_at_call 48; refine (HI.out _).mono ?_; rintro e w1 ⟨rfl, rfl⟩)
  go_returns
  exact ⟨rfl, Below.refl _ _⟩
theorem RFind_nf (f : Int) (g : Nat) (F : List Nat) (L : List X) (w : World) (hf : 0 ≤ f ∧ f < 4096) (h : Rt w g F L) (hg : Good L) (hn : ∀ x ∈ L, ¬ CovI x f) :
    Calls Try.prog 35 #[.pointer (some ⟨g, 0, none⟩), .int .i64 f] w fun e w' => e = .returned (.tuple #[.int .i64 (-1), .int .i64 6]) ∧ Below w.heap.size w w' := by
  have HI := Lib.hid (fun W => page_any f W)
  simp only [decide_eq_true hf] at HI
  have HA := Lib.hid (RAt_nf f g F L w h hg hn)
  clear hf h hg hn
  go_enter Try.func35, Try.ntmps35
  go_wp2_with (first | (go_at_call 48; refine (HI.out _).mono ?_; rintro e w1 ⟨rfl, rfl⟩) | (go_at_call 13; refine HA.out.mono ?_; rintro e w2 ⟨rfl, hb⟩; have HB := Lib.hid hb; clear hb))
  go_returns
  exact ⟨rfl, HB.out⟩
theorem RFind_ok (f : Int) (i : Nat) (x : X) (g : Nat) (F : List Nat) (L : List X) (w : World) (hf : 0 ≤ f ∧ f < 4096) (h : Rt w g F L) (hg : Good L) (hi : L[i]? = some x) (hc : CovI x f) :
    Calls Try.prog 35 #[.pointer (some ⟨g, 0, none⟩), .int .i64 f] w fun e w' => e = .returned (.tuple #[.int .i64 (i : Nat), .int .i64 0]) ∧ Below w.heap.size w w' := by
  have HI := Lib.hid (fun W => page_any f W)
  simp only [decide_eq_true hf] at HI
  have HA := Lib.hid (RAt_ok f i x g F L w h hg hi hc)
  clear hf h hg hi hc
  go_enter Try.func35, Try.ntmps35
  go_wp2_with (first | (go_at_call 48; refine (HI.out _).mono ?_; rintro e w1 ⟨rfl, rfl⟩) | (go_at_call 13; refine HA.out.mono ?_; rintro e w2 ⟨rfl, hb⟩; have HB := Lib.hid hb; clear hb))
  go_returns
  exact ⟨rfl, HB.out⟩
theorem cov_page {x : X} (hx : Xok x) {f : Int} (hc : CovI x f) : 0 ≤ f ∧ f < 4096 := by
  obtain ⟨_, _, h, _⟩ := hx
  unfold CovI at hc
  omega
set_option maxHeartbeats 4000000 in
theorem Rany_any (f : Int) (n : Nat) (g : Nat) (F : List Nat) (L : List X) (w : World) (h : Rt w g F L) (hg : Good L) (hf : -10000 ≤ f ∧ f ≤ 10000) (hn : n ≤ 10000) :
    Calls Try.prog 57 #[.pointer (some ⟨g, 0, none⟩), .int .i64 f, .int .i64 (n : Nat)] w fun e w' => Below w.heap.size w w' ∧ ((e = .returned (.bool true) ∧ ∃ i, i < n ∧ ∃ x ∈ L, CovI x (f + (i : Nat))) ∨ (e = .returned (.bool false) ∧ ∀ i, i < n → ∀ x ∈ L, ¬ CovI x (f + (i : Nat)))) := by
  have HR := Lib.hid (And.intro h hg)
  clear h hg
  go_enter Try.func57, Try.ntmps57
  go_wp2_with fail
  go_loopw [7] (fun s wr => ∃ (i : Nat), i ≤ n ∧ s = .int .i64 (i : Nat) ∧ RowKit.Hid (Below w.heap.size w wr ∧ ∀ j, j < i → ∀ x ∈ L, ¬ CovI x (f + (j : Nat)))) (fun s _ => n - (intOf s).toNat)
  case atStart => exact ⟨0, Nat.zero_le _, rfl, Lib.hid ⟨Below.refl _ _, fun j hj => absurd hj (Nat.not_lt_zero _)⟩⟩
  case round =>
    obtain ⟨i, hi, rfl, HL⟩ := hrel
    by_cases hin : i < n
    · have hinI : ((i : Nat) : Int) < ((n : Nat) : Int) := by omega
      have q1 : wrap64 (f + ((i : Nat) : Int)) = f + ((i : Nat) : Int) := IntWalk.wrap64_in _ (by omega)
      go_wp2_with fail
      refine (RAt_any _ g F L wr (HR.out.1.below HL.out.1) HR.out.2).mono ?_
      rintro e w2 ⟨hb2, he⟩
      have HB2 := Lib.hid (HL.out.1.trans (hb2.mono HL.out.1.size))
      clear hb2
      rcases he with ⟨hno, rfl⟩ | ⟨j, x, hj, hc, rfl⟩
      · have HN := Lib.hid hno
        clear hno
        go_wp2_with fail
        exact ⟨⟨i + 1, hin, by simp, Lib.hid ⟨HB2.out, fun j hj => by
          by_cases e : j = i
          · subst e; exact HN.out
          · exact HL.out.2 j (by omega)⟩⟩, by simp [intOf]; omega⟩
      · have HC := Lib.hid (And.intro hj hc)
        clear hj hc
        have h0 : (0 : Int) ≤ ((j : Nat) : Int) := by omega
        go_wp2_with fail
        go_ret
        exact ⟨HB2.out, .inl ⟨rfl, i, hin, x, List.mem_of_getElem? HC.out.1, HC.out.2⟩⟩
    · have hin2 : i = n := by omega
      subst hin2
      go_wp2_with fail
      go_ret
      exact ⟨HL.out.1, .inr ⟨rfl, HL.out.2⟩⟩
theorem RDel_err (f : Int) (c : Int) (hc : c ≠ 0) (g : Nat) (w : World) (H : ∀ W, W = w → Calls Try.prog 35 #[.pointer (some ⟨g, 0, none⟩), .int .i64 f] W fun e w' => e = .returned (.tuple #[.int .i64 (-1), .int .i64 c]) ∧ Below W.heap.size W w') :
    Calls Try.prog 16 #[.pointer (some ⟨g, 0, none⟩), .int .i64 f] w fun e w' => e = .returned (.tuple #[.int .i64 0, .int .i64 c]) ∧ Below w.heap.size w w' := by
  have HH := Lib.hid (H w rfl)
  clear H
  go_enter Try.func16, Try.ntmps16
  go_wp2_with (go_at_call 35; refine HH.out.mono ?_; rintro e w1 ⟨rfl, hb⟩; have HB := Lib.hid hb; clear hb)
  go_returns
  exact ⟨rfl, HB.out⟩
set_option maxHeartbeats 4000000 in
theorem RDel_ok (f : Int) (i : Nat) (x : X) (g : Nat) (F : List Nat) (L : List X) (w : World) (h : Rt w g F L) (hg : Good L) (hm : L.length ≤ 5000) (hi : L[i]? = some x) (hc : CovI x f) :
    Calls Try.prog 16 #[.pointer (some ⟨g, 0, none⟩), .int .i64 f] w fun e w' => e = .returned (.tuple #[.int .i64 x.v, .int .i64 0]) ∧ ∃ F', Chg F F' w w' ∧ Rt w' g F' (dl i 1 L) := by
  have hil : i < L.length := (List.getElem?_eq_some_iff.1 hi).1
  have HF := Lib.hid (RFind_ok f i x g F L w (cov_page (hg.1 x (List.mem_of_getElem? hi)) hc) h hg hi hc)
  have HR := Lib.hid (And.intro h (And.intro hi hm))
  clear h hg hm hi hc
  go_enter Try.func16, Try.ntmps16
  go_wp2_with fail
  refine HF.out.mono ?_
  rintro e w1 ⟨rfl, hb⟩
  have HB := Lib.hid hb
  have HT := Lib.hid (HR.out.1.below hb)
  clear hb HF
  obtain ⟨ao, cap, c0, hT, _⟩ := HT.out.cells
  obtain ⟨bl, cl2, hv, _, _, hbl, hcell, _⟩ := hT.read (ne_nil_of_lt hil)
  cases hv
  obtain ⟨e0, e1, e2, _⟩ := hcell i _ HR.out.2.1
  have hiI : ((i : Nat) : Int) < ((L.length : Nat) : Int) := by omega
  have hi0 : (0 : Int) ≤ ((i : Nat) : Int) := by omega
  clear hcell hT hbl
  go_wp2_with fail
  refine (Rdrop_any i 1 g F L w1 HT.out HR.out.2.2 (by have := HR.out.2.2; omega) (by omega)).mono ?_
  rintro e w2 ⟨rfl, F', hc2, hr2⟩
  have HC := Lib.hid (And.intro ((Chg.of_below (F := F) HB.out).trans hc2) hr2)
  clear hc2 hr2 e0 e1 e2 c0
  go_wp2_with fail
  go_returns
  exact ⟨rfl, F', HC.out⟩

end Go.Proofs.Ytdnnfoojdfmajaa
