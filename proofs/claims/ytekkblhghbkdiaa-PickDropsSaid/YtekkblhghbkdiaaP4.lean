/- Parts of the proofs of layer 6 (pick): contracts of its functions, and the laws' walks. -/
import Derived.Test.YtekkblhghbkdiaaProg
import Derived.WalkKit
import Derived.WalkSpells
import Derived.WalkLawsBesides
import Derived.BigQuiet
import Derived.Deep.QuietTactic
import Derived.Lib.Hide
import Derived.Deep.RegionHeld3
import Derived.Deep.DeepCutAuto
import Derived.KernelRfl
import Derived.Deep.OwnRows
import Derived.Laws.CopyOwn
import Derived.Laws.CopyRow
import Derived.StillTailTactics
import Derived.Deep.RegionLaw
import Derived.Test.YtekkblhghbkdiaaP3
import Derived.OwnWalk
namespace Go.Proofs.Ytekkblhghbkdiaa
open Go.RowKit
set_option linter.unusedVariables false
set_option linter.unusedSimpArgs false

theorem wf_small {x : Int} (h : 0 ≤ x ∧ x ≤ 5000) : wf x := by
  have hmin : IntKind.i64.min = -9223372036854775808 := rfl
  have hmax : IntKind.i64.max = 9223372036854775807 := rfl
  unfold wf
  simp only [Lit.wf, Bool.and_eq_true, decide_eq_true_eq]
  omega
set_option maxHeartbeats 1000000 in
theorem less_any (p : Nat) (F : List Nat) (L : List E) (n : Nat) (φ : Int → Option Int) (i j : Nat) (w : World) (h : Pq w p F L n φ) (hi : i < L.length) (hj : j < L.length) :
    Calls Try.prog 46 #[.pointer (some ⟨p, 0, none⟩), .int .i64 (i : Nat), .int .i64 (j : Nat)] w fun e w' => e = .returned (.bool (decide (lt (g L i) (g L j)))) ∧ Below w.heap.size w w' := by
  obtain ⟨ao, cap, b, c0, c1, c2, fz, ht, hm, _⟩ := h.cells
  obtain ⟨bk, cap', hv, hnc, hcm, hb, hcell, hff⟩ := ht.read (ne_nil_of_lt hi)
  cases hv
  obtain ⟨i0, i1⟩ := hcell i _ (get_g hi)
  obtain ⟨j0, j1⟩ := hcell j _ (get_g hj)
  have HA := Lib.hid fun w0 => ahead_any (g L i) (g L j) w0
  have hiI : ((i : Nat) : Int) < ((L.length : Nat) : Int) := by omega
  have hjI : ((j : Nat) : Int) < ((L.length : Nat) : Int) := by omega
  generalize g L i = ei at *
  generalize g L j = ej at *
  clear h ht hm hcell hff fz c1
  go_enter Try.func46, Try.ntmps46
  go_wp2_with fail
  go_still_tail 18, (by kernel_rfl)
  go_wp2_with fail
  refine (HA.out _).mono ?_
  rintro e w1 ⟨rfl, hb1⟩
  go_wp2_with fail
  go_ret
  exact ⟨rfl, below_undrew hb1⟩
set_option maxHeartbeats 2000000 in
theorem swap_any (p : Nat) (F : List Nat) (L : List E) (n : Nat) (φ : Int → Option Int) (i j : Nat) (w : World) (h : Pq w p F L n φ) (hi : i < L.length) (hj : j < L.length) (hij : i ≠ j) (hn : n < maxLen)
    (hfi : wf (g L i).f) (hfj : wf (g L j).f) (hsi : (φ (g L i).f).isSome = true) (hsj : (φ (g L j).f).isSome = true) (hne : (g L i).f ≠ (g L j).f) (hm : L.length ≤ 5000) :
    Calls Try.prog 49 #[.pointer (some ⟨p, 0, none⟩), .int .i64 (i : Nat), .int .i64 (j : Nat)] w fun e w' => e = .returned (.tuple #[]) ∧ Chg F F w w' ∧ Pq w' p F (swp L i j) n (upd (upd φ (g L j).f (some (i : Nat))) (g L i).f (some (j : Nat))) := by
  obtain ⟨ao, cap, b, c0, c1, c2, fz, ht, hmx, hp, hF, hpb, hpv, hbv⟩ := h.cells
  have hFl := h.lt
  have ht' := ht
  obtain ⟨bk, cap', hv, hnc, hcm, hb, hcell, hff⟩ := ht'.read (ne_nil_of_lt hi)
  cases hv
  obtain ⟨i0, i1⟩ := hcell i _ (get_g hi)
  obtain ⟨j0, j1⟩ := hcell j _ (get_g hj)
  have HT := Lib.hid ht
  have HI := Lib.hid (And.intro hi hj)
  have hiI : ((i : Nat) : Int) < ((L.length : Nat) : Int) := by omega
  have hjI : ((j : Nat) : Int) < ((L.length : Nat) : Int) := by omega
  have hijI : ((i : Nat) : Int) ≠ ((j : Nat) : Int) := by omega
  have HS : RowKit.Hid (swp L i j = (L.set i (g L j)).set j (g L i)) := Lib.hid rfl
  generalize g L i = ei at *
  generalize g L j = ej at *
  generalize swp L i j = L' at *
  clear hcell h ht c2
  go_enter Try.func49, Try.ntmps49
  go_upto_region 0 with fail
  go_cut [] (fun wc => wc = ((((w.setCell ⟨bk, i * 2, none⟩ (.int .i64 ej.f)).setCell ⟨bk, i * 2 + 1, none⟩ (.int .i64 ej.w)).setCell ⟨bk, j * 2, none⟩ (.int .i64 ei.f)).setCell ⟨bk, j * 2 + 1, none⟩ (.int .i64 ei.w)).drew)
  case first =>
    go_region
    all_goals (go_wp2_with fail; go_meet; rfl)
  case rest =>
    subst hcut
    have ht4 : Told 54 ((((w.setCell ⟨bk, i * 2, none⟩ (.int .i64 ej.f)).setCell ⟨bk, i * 2 + 1, none⟩ (.int .i64 ej.w)).setCell ⟨bk, j * 2, none⟩ (.int .i64 ei.f)).setCell ⟨bk, j * 2 + 1, none⟩ (.int .i64 ei.w)).drew (.slice (some ⟨bk, 0, none⟩) L.length cap) L' := by
      rw [HS.out]
      exact Told.stored (Told.stored HT.out rfl i ej HI.out.1) (by simp) j ei (by simpa using HI.out.2)
    have hc4 : Chg [bk] [bk] w ((((w.setCell ⟨bk, i * 2, none⟩ (.int .i64 ej.f)).setCell ⟨bk, i * 2 + 1, none⟩ (.int .i64 ej.w)).setCell ⟨bk, j * 2, none⟩ (.int .i64 ei.f)).setCell ⟨bk, j * 2 + 1, none⟩ (.int .i64 ei.w)).drew :=
      (((((Chg.refl [bk] w).setCell _ _ _ (by simp)).setCell _ _ _ (by simp)).setCell _ _ _ (by simp)).setCell _ _ _ (by simp)).drew
    clear i0 i1 j0 j1
    generalize ((((w.setCell ⟨bk, i * 2, none⟩ (.int .i64 ej.f)).setCell ⟨bk, i * 2 + 1, none⟩ (.int .i64 ej.w)).setCell ⟨bk, j * 2, none⟩ (.int .i64 ei.f)).setCell ⟨bk, j * 2 + 1, none⟩ (.int .i64 ei.w)).drew = w4 at *
    have hpv' : p ≠ bk := fun e => hpv (by simp [vblk_some, e])
    have hbv' : b ≠ bk := fun e => hbv (by simp [vblk_some, e])
    have hp4 := (hc4.block (lt_of_block hp) (by simpa using hpv')).trans hp
    have hm4 := hmx.of_block (hc4.block hmx.lt (by simpa using hbv'))
    have hm4d : MX w4.drew b n φ := hm4
    have hlen : L'.length = L.length := by rw [HS.out]; simp
    have hl4 := ht4.lt bk (by simp [vblk_some])
    obtain ⟨b', cap', hv, _, _, _, hcell, hff'⟩ := ht4.read (l := L') (ne_nil_of_lt (i := i) (by rw [hlen]; exact HI.out.1))
    injection hv with hv1 hv2 hv3
    cases hv1
    clear hv2 hv3
    have gi : L'[i]? = some ej := by rw [HS.out, List.getElem?_set_ne (by omega), List.getElem?_set_self HI.out.1]
    have gj : L'[j]? = some ei := by rw [HS.out, List.getElem?_set_self (by simpa using HI.out.2)]
    obtain ⟨v1, st1, hme1, hst1⟩ := hm4d.entry hfj hsj hn
    obtain ⟨w5, hes1, hm5, htu1⟩ := hst1 (i : Nat) (wf_small (by omega))
    obtain ⟨v2, st2, hme2, hst2⟩ := hm5.entry hfi (by unfold upd; split; rfl; exact hsi) hn
    obtain ⟨w6, hes2, hm6, htu2⟩ := hst2 (j : Nat) (wf_small (by omega))
    have hc5 := mapTurned_chg htu1
    have hc6 := mapTurned_chg htu2
    have C0 : w4.cell? ⟨p, 0, none⟩ = some (.slice (some ⟨bk, 0, none⟩) L.length cap) := cell_of_row w4 p 0 _ 59 _ hp4
    have C1 : w4.cell? ⟨p, 1, none⟩ = some (.map (some b)) := cell_of_row w4 p 1 _ 59 _ hp4
    obtain ⟨I0, I1⟩ := hcell i _ gi
    obtain ⟨J0, J1⟩ := hcell j _ gj
    have D0 := hc5.cell (u := .slice (some ⟨bk, 0, none⟩) L.length cap) C0 (by simpa using hpb)
    have D1 := hc5.cell (u := .map (some b)) C1 (by simpa using hpb)
    have II0 := hc5.cell I0 (by simpa using hbv'.symm)
    have JJ0 := hc5.cell J0 (by simpa using hbv'.symm)
    have HM := Lib.hid (And.intro hm6 (And.intro hc4 (And.intro hc5 hc6)))
    have HP := Lib.hid (And.intro ht4 (And.intro hp4 (And.intro hpb (And.intro hpv hbv))))
    clear hm6 hc4 hc5 hc6 htu1 htu2 hst1 hst2 hm4 hm4d hm5 hcell hff' hff ht4 hp4 hp ht' hmx hb c0 c1 fz hpb hpv hbv I1 J1
    go_wp2_with fail
    go_region
    all_goals (
      go_wp2_with fail
      go_end0
      have hne5 : ∀ x, x ≠ b → x < w4.heap.size → w6.heap[x]? = w4.heap[x]? := fun x hx hl =>
        (HM.out.2.2.2.block (by have := HM.out.2.2.1.size; exact Nat.lt_of_lt_of_le hl this) (by simpa using hx)).trans (HM.out.2.2.1.block hl (by simpa using hx))
      refine ⟨rfl, ?_, _, b, ?_, HP.out.1.of_blocks (fun x hx => ?_), HM.out.1, hF, HP.out.2.2.1, HP.out.2.2.2.1, HP.out.2.2.2.2⟩
      · have e1 : Chg F F w w4 := HM.out.2.1.frame (by rw [hF]; simp [vblk_some]) (fun _ h => .inr h)
        have e2 : Chg F F w4 w5 := Chg.frame (F := F) (F' := F) (show Chg [b] [b] w4 w5 from HM.out.2.2.1) (by rw [hF]; simp) (fun _ h => .inr h)
        have e3 : Chg F F w5 w6 := HM.out.2.2.2.frame (by rw [hF]; simp) (fun _ h => .inr h)
        exact (e1.trans e2).trans e3
      · exact (hne5 p HP.out.2.2.1 (lt_of_block HP.out.2.1)).trans HP.out.2.1
      · exact hne5 x (fun e => HP.out.2.2.2.2 (e ▸ hx)) (HP.out.1.lt x hx))

end Go.Proofs.Ytekkblhghbkdiaa
