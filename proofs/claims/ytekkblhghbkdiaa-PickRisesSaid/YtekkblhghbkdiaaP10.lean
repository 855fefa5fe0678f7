/- Parts of the proofs of layer 6 (pick): contracts of its functions, and the laws' walks. -/
import Derived.Test.YtekkblhghbkdiaaProg
import Derived.WalkKit
import Derived.WalkSpells
import Derived.WalkLawsBesides
import Derived.BigQuiet
import Derived.Deep.QuietTactic
import Derived.Lib.Hide
import Derived.Deep.RegionHeld3
import Derived.Deep.DeepCutAuto
import Derived.KernelRfl
import Derived.Deep.OwnRows
import Derived.Laws.CopyOwn
import Derived.Laws.CopyRow
import Derived.StillTailTactics
import Derived.Deep.RegionLaw
import Derived.Test.YtekkblhghbkdiaaP9
namespace Go.Proofs.Ytekkblhghbkdiaa
open Go.RowKit
set_option linter.unusedVariables false
set_option linter.unusedSimpArgs false

set_option maxHeartbeats 1000000 in
theorem Fix_any (p : Nat) (F : List Nat) (L : List E) (i : Nat) (w : World) (h : Pk w p F L) (hi : i < L.length) :
    Calls Try.prog 22 #[hv p, .int .i64 (i : Nat)] w fun e w' => e = .returned (.tuple #[]) ∧ Chg F F w w' ∧ Pk w' p F (fix L.length L i) := by
  have HD := Lib.hid (down_any p F L i L.length w h hi (Nat.le_refl _))
  have HL := Lib.hid (Len_any p F L w h)
  have HLn := Lib.hid (dn_perm L.length L i (Nat.le_refl _)).2.1
  have HF : RowKit.Hid (fix L.length L i = if i < (dn L.length L i).2 then (dn L.length L i).1 else upf (dn L.length L i).1 i) := Lib.hid rfl
  clear h
  go_enter Try.func22, Try.ntmps22
  go_wp2_with fail
  refine HL.out.mono ?_
  rintro e w1 ⟨rfl, rfl⟩
  go_wp2_with fail
  refine HD.out.mono ?_
  generalize dn L.length L i = d at *
  rintro e w2 ⟨rfl, hc2, hk2⟩
  have HK := Lib.hid (And.intro hc2 hk2)
  clear hc2 hk2
  by_cases hd : i < d.2
  · have HX := Lib.hid hd
    rw [decide_eq_true hd]
    go_wp2_with fail
    go_end0
    exact ⟨rfl, HK.out.1, by rw [HF.out, if_pos HX.out]; exact HK.out.2⟩
  · have HX := Lib.hid hd
    rw [decide_eq_false hd]
    have HU := Lib.hid (up_any p F d.1 i w2 HK.out.2 (by rw [HLn.out]; exact hi))
    go_wp2_with fail
    refine HU.out.mono ?_
    rintro e w3 ⟨rfl, hc3, hk3⟩
    have HK3 := Lib.hid (And.intro hc3 hk3)
    clear hc3 hk3
    go_wp2_with fail
    go_end0
    exact ⟨rfl, HK.out.1.trans HK3.out.1, by rw [HF.out, if_neg HX.out]; exact HK3.out.2⟩
theorem HPush_any (p : Nat) (F : List Nat) (L : List E) (x : E) (w : World) (h : Pk w p F L) (hx : 0 ≤ x.f ∧ x.f ≤ 1023) (hm : L.length < 3000) (hn : ∀ e ∈ L, e.f ≠ x.f) :
    Calls Try.prog 23 #[hv p, .iface 54 (.agg #[.int .i64 x.f, .int .i64 x.w])] w fun e w' => e = .returned (.tuple #[]) ∧ ∃ F', Chg F F' w w' ∧ Pk w' p F' (upf (L ++ [x]) L.length) := by
  have HP := Lib.hid (Push_any p F L x w h hx hm hn)
  have hlen : (L ++ [x]).length = L.length + 1 := by simp
  have hw1 : IntKind.i64.wrap ((((L ++ [x]).length : Nat) : Int) - 1) = ((L.length : Nat) : Int) := by rw [hlen, IntKind.wrap_i64]; omega
  have hl : L.length < (L ++ [x]).length := by omega
  clear h hn
  generalize L ++ [x] = M at *
  clear hlen
  go_enter Try.func23, Try.ntmps23
  go_wp2_with fail
  refine HP.out.mono ?_
  rintro e w1 ⟨rfl, F1, hc1, hk1⟩
  have HK := Lib.hid (And.intro hc1 hk1)
  have HL := Lib.hid (Len_any p F1 M w1 hk1)
  have HU := Lib.hid (up_any p F1 M L.length w1 hk1 hl)
  clear hc1 hk1
  go_wp2_with fail
  refine HL.out.mono ?_
  rintro e w2 ⟨rfl, rfl⟩
  go_wp2_with fail
  refine HU.out.mono ?_
  rintro e w3 ⟨rfl, hc3, hk3⟩
  have HK3 := Lib.hid (And.intro hc3 hk3)
  clear hc3 hk3
  go_wp2_with fail
  go_end0
  exact ⟨rfl, F1, HK.out.1.trans HK3.out.1, HK3.out.2⟩
/-- What is left when one is taken out. -/
def moved (L : List E) (i : Nat) : List E := if L.length - 1 = i then L else fix (L.length - 1) (swp L i (L.length - 1)) i
def rmv (L : List E) (i : Nat) : List E := (moved L i).dropLast
theorem moved_length {L : List E} {i : Nat} (hi : i < L.length) : (moved L i).length = L.length := by
  unfold moved
  split
  · rfl
  · rw [(fix_perm (L.length - 1) (swp L i (L.length - 1)) i (by omega) (by rw [swp_length]; omega)).2.1, swp_length]
theorem moved_last {L : List E} {i : Nat} (hi : i < L.length) : g (moved L i) (L.length - 1) = g L i := by
  unfold moved
  split
  · rename_i e; rw [e]
  · rw [(fix_perm (L.length - 1) (swp L i (L.length - 1)) i (by omega) (by rw [swp_length]; omega)).2.2 _ (Nat.le_refl _), swp_get hi (by omega), if_pos rfl]
theorem rmv_concat {L : List E} {i : Nat} (hi : i < L.length) : rmv L i ++ [g L i] = moved L i := by
  have hne : moved L i ≠ [] := fun e => by have := moved_length hi; rw [e] at this; simp at this; omega
  have h1 := List.dropLast_concat_getLast hne
  have h2 : (moved L i).getLast hne = g L i := by
    rw [← moved_last hi, List.getLast_eq_getElem]
    have := get_g (l := moved L i) (i := L.length - 1) (by rw [moved_length hi]; omega)
    rw [List.getElem?_eq_getElem (by rw [moved_length hi]; omega)] at this
    simp only [moved_length hi]
    simpa using this
  rw [← h2]
  exact h1
set_option maxHeartbeats 2000000 in
theorem Remove_any (p : Nat) (F : List Nat) (L : List E) (i : Nat) (w : World) (h : Pk w p F L) (hi : i < L.length) :
    Calls Try.prog 25 #[hv p, .int .i64 (i : Nat)] w fun e w' => e = .returned (.iface 54 (.agg #[.int .i64 (g L i).f, .int .i64 (g L i).w])) ∧ Chg F F w w' ∧ Pk w' p F (rmv L i) := by
  have hm := h.2.2
  have HL := Lib.hid (Len_any p F L w h)
  have HR := Lib.hid (rmv_concat hi)
  have HP := Lib.hid fun (wx : World) (hx : Pk wx p F (moved L i)) => Pop_any p F (rmv L i) (g L i) wx (by rw [rmv_concat hi]; exact hx)
  obtain ⟨n, hn⟩ : ∃ n, L.length - 1 = n := ⟨_, rfl⟩
  have hw1 : IntKind.i64.wrap (((L.length : Nat) : Int) - 1) = ((n : Nat) : Int) := by rw [IntKind.wrap_i64]; omega
  have HH := Lib.hid h
  clear h
  by_cases hni : n = i
  · have HM := Lib.hid (show moved L i = L from if_pos (hn.trans hni))
    have hniI : ((n : Nat) : Int) = ((i : Nat) : Int) := by omega
    subst hni
    clear hn
    go_enter Try.func25, Try.ntmps25
    go_wp2_with fail
    refine HL.out.mono ?_
    rintro e w1 ⟨rfl, rfl⟩
    have HP1 := Lib.hid (HP.out w (by rw [HM.out]; exact HH.out))
    go_wp2_with fail
    refine HP1.out.mono ?_
    rintro e w2 ⟨rfl, hc2, hk2⟩
    have HK2 := Lib.hid (And.intro hc2 hk2)
    clear hc2 hk2
    go_wp2_with fail
    go_ret
    exact ⟨rfl, HK2.out⟩
  · have HM : RowKit.Hid (moved L i = if i < (dn n (swp L i n) i).2 then (dn n (swp L i n) i).1 else upf (dn n (swp L i n) i).1 i) := Lib.hid (by unfold moved; rw [hn, if_neg hni]; rfl)
    have hniI : ((n : Nat) : Int) ≠ ((i : Nat) : Int) := by omega
    have HS := Lib.hid (Swap_any p F L i n w HH.out hi (by omega) (Ne.symm hni))
    have hsl : (swp L i n).length = L.length := swp_length _ _ _
    have HDP := Lib.hid (dn_perm n (swp L i n) i (by omega)).2.1
    have hni2 : i < n := by omega
    have hnl : n ≤ L.length := by omega
    clear hn
    go_enter Try.func25, Try.ntmps25
    go_wp2_with fail
    refine HL.out.mono ?_
    rintro e w1 ⟨rfl, rfl⟩
    go_wp2_with fail
    refine HS.out.mono ?_
    generalize swp L i n = M at *
    rintro e w2 ⟨rfl, hc2, hk2⟩
    have HK2 := Lib.hid (And.intro hc2 hk2)
    have HD := Lib.hid (down_any p F M i n w2 hk2 hni2 (by omega))
    clear hc2 hk2
    go_wp2_with fail
    refine HD.out.mono ?_
    generalize dn n M i = d at *
    rintro e w3 ⟨rfl, hc3, hk3⟩
    have HK3 := Lib.hid (And.intro hc3 hk3)
    clear hc3 hk3
    by_cases hd : i < d.2
    · have HX := Lib.hid hd
      rw [decide_eq_true hd]
      clear hd
      have HP1 := Lib.hid (HP.out w3 (by rw [HM.out, if_pos HX.out]; exact HK3.out.2))
      go_wp2_with fail
      refine HP1.out.mono ?_
      rintro e w4 ⟨rfl, hc4, hk4⟩
      have HK4 := Lib.hid (And.intro hc4 hk4)
      clear hc4 hk4
      go_wp2_with fail
      go_ret
      exact ⟨rfl, (HK2.out.1.trans HK3.out.1).trans HK4.out.1, HK4.out.2⟩
    · have HX := Lib.hid hd
      rw [decide_eq_false hd]
      clear hd
      have HU := Lib.hid (up_any p F d.1 i w3 HK3.out.2 (by rw [HDP.out, hsl]; exact hi))
      go_wp2_with fail
      refine HU.out.mono ?_
      rintro e w4 ⟨rfl, hc4, hk4⟩
      have HK4 := Lib.hid (And.intro hc4 hk4)
      have HP1 := Lib.hid (HP.out w4 (by rw [HM.out, if_neg HX.out]; exact hk4))
      clear hc4 hk4
      go_wp2_with fail
      refine HP1.out.mono ?_
      rintro e w5 ⟨rfl, hc5, hk5⟩
      have HK5 := Lib.hid (And.intro hc5 hk5)
      clear hc5 hk5
      go_wp2_with fail
      go_ret
      exact ⟨rfl, ((HK2.out.1.trans HK3.out.1).trans HK4.out.1).trans HK5.out.1, HK5.out.2⟩

end Go.Proofs.Ytekkblhghbkdiaa
