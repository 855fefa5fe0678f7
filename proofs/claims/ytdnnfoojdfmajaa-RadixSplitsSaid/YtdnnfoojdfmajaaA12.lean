/- Parts of the proofs of layer 19 (radix): contracts of its functions, and the laws' walks. -/
import Derived.Test.YtdnnfoojdfmajaaProg
import Derived.WalkKit
import Derived.WalkSpells
import Derived.WalkLawsBesides
import Derived.BigQuiet
import Derived.Deep.QuietTactic
import Derived.Lib.Hide
import Derived.Deep.RegionHeld3
import Derived.Deep.DeepCutAuto
import Derived.KernelRfl
import Derived.Deep.OwnRows
import Derived.Laws.CopyOwn
import Derived.Laws.CopyRow
import Derived.StillTailTactics
import Derived.Deep.RegionLaw
import Derived.Handy
import Derived.Deep.CutRange
import Derived.Deep.CutBlock
import Derived.Test.YtdnnfoojdfmajaaA11
namespace Go.Proofs.Ytdnnfoojdfmajaa
open Go.RowKit
set_option linter.unusedVariables false
set_option linter.unusedSimpArgs false

theorem act6 {w : World} {b : Nat} {kind page o v mark : Int} {on : Bool} (hz : w.heap[b]? = some (.cells #[.int .i64 kind, .int .i64 page, .int .i64 o, .int .i64 v, .int .i64 mark, .bool on] 52)) : w.cell? ⟨b, 0, none⟩ = some (.int .i64 kind) ∧ w.cell? ⟨b, 1, none⟩ = some (.int .i64 page) ∧ w.cell? ⟨b, 2, none⟩ = some (.int .i64 o) ∧ w.cell? ⟨b, 3, none⟩ = some (.int .i64 v) ∧ w.cell? ⟨b, 4, none⟩ = some (.int .i64 mark) ∧ w.cell? ⟨b, 5, none⟩ = some (.bool on) :=
  ⟨cell_of_row _ _ 0 _ 52 _ hz, cell_of_row _ _ 1 _ 52 _ hz, cell_of_row _ _ 2 _ 52 _ hz, cell_of_row _ _ 3 _ 52 _ hz, cell_of_row _ _ 4 _ 52 _ hz, cell_of_row _ _ 5 _ 52 _ hz⟩
/-- How a call, or eight, of both ends. -/
def DoOk (w : World) (t r : Nat) (L : List X) (F G : List Nat) (kind page : Int) (e : Ending) (w' : World) : Prop := e = .returned (.bool true) ∧ ∃ σ' L' F' G', Tw w' t r σ' L' F' G' ∧ Chg (F ++ G) (F' ++ G') w w' ∧ (kind ≠ 9 → Kept L L' page)
set_option maxRecDepth 100000 in
set_option maxHeartbeats 16000000 in
theorem do_any (kind : Int) (page o v mark : Int) (on : Bool) (t r : Nat) (σ : St) (L : List X) (F G : List Nat) (w : World) (h : Tw w t r σ L F G) : Calls Try.prog 24 #[.pointer (some ⟨t, 0, none⟩), .pointer (some ⟨r, 0, none⟩), .agg #[.int .i64 kind, .int .i64 page, .int .i64 o, .int .i64 v, .int .i64 mark, .bool on]] w fun e w' => DoOk w t r L F G kind page e w' := by
  by_cases hk : kind = 9
  · subst hk
    have hz := heap_alloc_new w (.cells #[.int .i64 9, .int .i64 page, .int .i64 o, .int .i64 v, .int .i64 mark, .bool on] 52)
    have hA : Below w.heap.size w (w.alloc (.cells #[.int .i64 9, .int .i64 page, .int .i64 o, .int .i64 v, .int .i64 mark, .bool on] 52)) := (Below.refl _ _).alloc (Nat.le_refl _) _
    have HB0 := Lib.hid (And.intro hA (And.intro (lt_of_block hz) (fun hm => Nat.lt_irrefl _ (h.lt _ hm) : w.heap.size ∉ F ++ G)))
    have HT0 := Lib.hid (h.below hA)
    obtain ⟨x0, x1, x2, x3, x4, x5⟩ := act6 hz
    clear hz hA h
    go_enter Try.func24, Try.ntmps24
    go_upto_region 1 with fail
    generalize hD : w.heap.size = D at *
    have HD := Lib.hid hD
    clear hD
    generalize w.alloc (.cells #[.int .i64 9, .int .i64 page, .int .i64 o, .int .i64 v, .int .i64 mark, .bool on] 52) = w1 at *
    have HX := Lib.hid (And.intro x0 (And.intro x1 (And.intro x2 (And.intro x3 (And.intro x4 x5)))))
    go_wp2_with fail
    clear x0 x1 x2 x3 x4 x5
    go_loopw [7] (fun s wr => ∃ (k : Nat), k ≤ 8 ∧ s = .int .i64 (k : Nat) ∧ RowKit.Hid (∃ σ1 L1 F1 G1, Tw wr t r σ1 L1 F1 G1 ∧ Chg (F ++ G) (F1 ++ G1) w1 wr)) (fun s _ => 8 - (intOf s).toNat)
    case atStart => exact ⟨0, by omega, rfl, Lib.hid ⟨σ, L, F, G, HT0.out, Chg.refl _ _⟩⟩
    case round =>
      obtain ⟨k, hk8, rfl, HL⟩ := hrel
      by_cases hk : k < 8
      · have hkI : ((k : Nat) : Int) < 8 := by omega
        obtain ⟨σ1, L1, F1, G1, hT1, hc1⟩ := HL.out
        have HL1 := Lib.hid (And.intro hT1 hc1)
        obtain ⟨x0, x1, x2, x3, x4, x5⟩ := six_chg HX.out hc1 HB0.out.2.2
        have hz := heap_alloc_new wr (.cells #[.int .i64 9, .int .i64 page, .int .i64 o, .int .i64 v, .int .i64 mark, .bool on] 52)
        have hA : Below wr.heap.size wr (wr.alloc (.cells #[.int .i64 9, .int .i64 page, .int .i64 o, .int .i64 v, .int .i64 mark, .bool on] 52)) := (Below.refl _ _).alloc (Nat.le_refl _) _
        have HZ := Lib.hid (And.intro (act6 hz) (And.intro (fun j => frozen_of_row _ _ j _ 52 hz) (lt_of_block hz)))
        have HZX := Lib.hid (six_chg (F := []) ⟨x0, x1, x2, x3, x4, x5⟩ (Chg.of_below hA) (by simp))
        have HBA := Lib.hid hA
        have hDl : D < wr.heap.size := Nat.lt_of_lt_of_le HB0.out.2.1 hc1.size
        clear hz hA hT1 hc1
        go_upto_region 7 with fail
        clear x0 x1 x2 x3 x4 x5
        generalize hB : wr.heap.size = B at *
        have HBB := Lib.hid hB
        have hDB : ¬ (D = B) := by omega
        have hBD : ¬ (B = D) := by omega
        clear hDl
        generalize wr.alloc (.cells #[.int .i64 9, .int .i64 page, .int .i64 o, .int .i64 v, .int .i64 mark, .bool on] 52) = w3 at *
        have HBEL := Lib.hid (And.intro (fun u0 u2 => ((hB ▸ HBA.out : Below wr.heap.size wr w3).setCell (p := ⟨B, 0, none⟩) (Nat.le_of_eq hB) u0).setCell (p := ⟨B, 2, none⟩) (Nat.le_of_eq hB) u2) (fun u0 u2 u1 u3 => ((((hB ▸ HBA.out : Below wr.heap.size wr w3).setCell (p := ⟨B, 0, none⟩) (Nat.le_of_eq hB) u0).setCell (p := ⟨B, 2, none⟩) (Nat.le_of_eq hB) u2).setCell (p := ⟨B, 1, none⟩) (Nat.le_of_eq hB) u1).setCell (p := ⟨B, 3, none⟩) (Nat.le_of_eq hB) u3))
        clear hB
        obtain ⟨x0, x1, x2, x3, x4, x5⟩ := HZX.out
        obtain ⟨⟨y0, y1, y2, y3, y4, y5⟩, yf, _⟩ := HZ.out
        by_cases c1 : page < 5000
        · by_cases c2 : v < 1099511627776
          · skip
            go_wp2_with (go_at_call 40; refine (one_any 0 _ 0 _ mark on t r σ1 L1 F1 G1 _ (HL1.out.1.below (by first | exact HBEL.out.2 _ _ _ _ | exact HBEL.out.1 _ _))).mono ?_; rintro e w7 ⟨rfl, σ2, L2, F2, G2, hT2, hc2, _⟩; have HN := Lib.hid (And.intro hT2 (HL1.out.2.trans ((Chg.of_below (by first | exact HBEL.out.2 _ _ _ _ | exact HBEL.out.1 _ _)).trans hc2))); clear hT2 hc2)
            exact ⟨⟨k + 1, by omega, by simp, Lib.hid ⟨σ2, L2, F2, G2, HN.out.1, HN.out.2⟩⟩, by simp [intOf]; omega⟩
          · have c3 : 1099511627776 ≤ v := by omega
            clear c2
            go_wp2_with (go_at_call 40; refine (one_any 0 _ 0 _ mark on t r σ1 L1 F1 G1 _ (HL1.out.1.below (by first | exact HBEL.out.2 _ _ _ _ | exact HBEL.out.1 _ _))).mono ?_; rintro e w7 ⟨rfl, σ2, L2, F2, G2, hT2, hc2, _⟩; have HN := Lib.hid (And.intro hT2 (HL1.out.2.trans ((Chg.of_below (by first | exact HBEL.out.2 _ _ _ _ | exact HBEL.out.1 _ _)).trans hc2))); clear hT2 hc2)
            exact ⟨⟨k + 1, by omega, by simp, Lib.hid ⟨σ2, L2, F2, G2, HN.out.1, HN.out.2⟩⟩, by simp [intOf]; omega⟩
        · have c3 : 5000 ≤ page := by omega
          clear c1
          go_wp2_with (go_at_call 40; refine (one_any 0 _ 0 _ mark on t r σ1 L1 F1 G1 _ (HL1.out.1.below (by first | exact HBEL.out.2 _ _ _ _ | exact HBEL.out.1 _ _))).mono ?_; rintro e w7 ⟨rfl, σ2, L2, F2, G2, hT2, hc2, _⟩; have HN := Lib.hid (And.intro hT2 (HL1.out.2.trans ((Chg.of_below (by first | exact HBEL.out.2 _ _ _ _ | exact HBEL.out.1 _ _)).trans hc2))); clear hT2 hc2)
          exact ⟨⟨k + 1, by omega, by simp, Lib.hid ⟨σ2, L2, F2, G2, HN.out.1, HN.out.2⟩⟩, by simp [intOf]; omega⟩
      · obtain rfl : k = 8 := by omega
        go_wp2_with fail
        go_ret
        obtain ⟨σ1, L1, F1, G1, hT1, hc1⟩ := HL.out
        exact ⟨rfl, σ1, L1, F1, G1, hT1, (Chg.of_below (by rw [HD.out]; exact HB0.out.1)).trans hc1, fun h => absurd rfl h⟩
  · have hk2 : (kind != 9) = true := bne_iff_ne.2 hk
    have hz := heap_alloc_new w (.cells #[.int .i64 kind, .int .i64 page, .int .i64 o, .int .i64 v, .int .i64 mark, .bool on] 52)
    have hA : Below w.heap.size w (w.alloc (.cells #[.int .i64 kind, .int .i64 page, .int .i64 o, .int .i64 v, .int .i64 mark, .bool on] 52)) := (Below.refl _ _).alloc (Nat.le_refl _) _
    have HB0 := Lib.hid (And.intro hA (And.intro (lt_of_block hz) (fun hm => Nat.lt_irrefl _ (h.lt _ hm) : w.heap.size ∉ F ++ G)))
    have HT0 := Lib.hid (h.below hA)
    obtain ⟨x0, x1, x2, x3, x4, x5⟩ := act6 hz
    clear hz hA h
    go_enter Try.func24, Try.ntmps24
    go_upto_region 1 with fail
    generalize hD : w.heap.size = D at *
    have HD := Lib.hid hD
    clear hD
    generalize w.alloc (.cells #[.int .i64 kind, .int .i64 page, .int .i64 o, .int .i64 v, .int .i64 mark, .bool on] 52) = w1 at *
    go_wp2_with (go_at_call 40; refine (one_any kind page o v mark on t r σ L F G _ HT0.out).mono ?_; rintro e w7 ⟨rfl, σ2, L2, F2, G2, hT2, hc2, hk2⟩; have HN := Lib.hid (And.intro hT2 (And.intro hc2 hk2)); clear hT2 hc2 hk2)
    go_ret
    exact ⟨rfl, σ2, L2, F2, G2, HN.out.1, (Chg.of_below (by rw [HD.out]; exact HB0.out.1)).trans HN.out.2.1, fun _ => HN.out.2.2⟩

end Go.Proofs.Ytdnnfoojdfmajaa
