/- Parts of the proofs of layer 6 (pick): contracts of its functions, and the laws' walks. -/
import Derived.Test.YtekkblhghbkdiaaProg
import Derived.WalkKit
import Derived.WalkSpells
import Derived.WalkLawsBesides
import Derived.BigQuiet
import Derived.Deep.QuietTactic
import Derived.Lib.Hide
import Derived.Deep.RegionHeld3
import Derived.Deep.DeepCutAuto
import Derived.KernelRfl
import Derived.Deep.OwnRows
import Derived.Laws.CopyOwn
import Derived.Laws.CopyRow
import Derived.StillTailTactics
import Derived.Deep.RegionLaw
import Derived.Test.YtekkblhghbkdiaaP13
namespace Go.Proofs.Ytekkblhghbkdiaa
open Go.RowKit
set_option linter.unusedVariables false
set_option linter.unusedSimpArgs false

theorem PH.wl {w : World} {p : Nat} {F : List Nat} {M : List E} (h : PH w p F M) : Wl M ∧ (M.Pairwise fun a b => a.f ≠ b.f) ∧ M.length ≤ 1024 := by
  obtain ⟨L, ⟨⟨φ, h, hp⟩, hw, hm⟩, hh, hpm⟩ := h
  have h1 := pw_of hp
  refine ⟨hw.perm hpm.symm, hpm.pairwise h1 (fun e => Ne.symm e), ?_⟩
  rw [← hpm.length_eq]
  exact len_le h1 hw
theorem Drop_any (p : Nat) (F : List Nat) (M : List E) (f : Int) (w : World) (h : PH w p F M) (hf : wf f) :
    Calls Try.prog 17 #[.pointer (some ⟨p, 0, none⟩), .int .i64 f] w fun e w' => Chg F F w w' ∧ PH w' p F (wo f M) ∧ (((∀ e ∈ M, e.f ≠ f) ∧ e = .returned (.int .i64 6)) ∨ ((∃ x ∈ M, x.f = f) ∧ e = .returned (.int .i64 0))) := by
  have HH := Lib.hid h
  obtain ⟨L, hk, hh, hpm⟩ := h
  have HF := Lib.hid (find_any p F L f w hk hf)
  have HPM := Lib.hid (And.intro hpm (And.intro hk hh))
  have hm := hk.2.2
  clear hk hh hpm
  go_enter Try.func17, Try.ntmps17
  go_wp2_with fail
  refine HF.out.mono ?_
  rintro e w1 ⟨rfl, he⟩
  rcases he with ⟨i, hi, hfi, rfl⟩ | ⟨hn, rfl⟩
  · have HR := Lib.hid (Remove_any p F L i w HPM.out.2.1 hi)
    have HI := Lib.hid (And.intro hi hfi)
    clear hfi
    go_wp2_with fail
    refine HR.out.mono ?_
    rintro e w2 ⟨rfl, hc2, hk2⟩
    have HK := Lib.hid (And.intro hc2 hk2)
    clear hc2 hk2
    go_wp2_with fail
    go_ret
    have hpw : L.Pairwise fun a b => a.f ≠ b.f := by obtain ⟨φ, _, hp⟩ := HPM.out.2.1.1; exact pw_of hp
    refine ⟨HK.out.1, ⟨rmv L i, HK.out.2, rmv_heap HPM.out.2.2 HI.out.1, ?_⟩, .inr ⟨⟨g L i, HPM.out.1.mem_iff.1 (mem_g.2 ⟨i, HI.out.1, rfl⟩), HI.out.2⟩, rfl⟩⟩
    have := rmv_perm hpw HI.out.1
    rw [HI.out.2] at this
    exact this.trans (wo_perm HPM.out.1)
  · have HN := Lib.hid (show ∀ e ∈ M, e.f ≠ f from fun e he => hn e (HPM.out.1.mem_iff.2 he))
    clear hn
    go_wp2
    go_ret
    exact ⟨Chg.refl _ _, by rw [wo_self HN.out]; exact HH.out, .inl ⟨HN.out, rfl⟩⟩
theorem Pop_ok (p : Nat) (F : List Nat) (M : List E) (w : World) (h : PH w p F M) :
    Calls Try.prog 14 #[.pointer (some ⟨p, 0, none⟩)] w fun e w' => Chg F F w w' ∧ ((M = [] ∧ PH w' p F M ∧ e = .returned (.tuple #[.int .i64 0, .int .i64 0, .int .i64 6])) ∨ ∃ x, IsFst M x ∧ PH w' p F (wo x.f M) ∧ e = .returned (.tuple #[.int .i64 x.f, .int .i64 x.w, .int .i64 0])) := by
  have HH := Lib.hid h
  have HF := Lib.hid (First_any p F M w h)
  clear h
  go_enter Try.func14, Try.ntmps14
  go_wp2_with fail
  refine HF.out.mono ?_
  rintro e w1 ⟨hb1, he⟩
  have HC1 := Lib.hid (Chg.of_below (F := F) hb1)
  have HH1 := Lib.hid (HH.out.below hb1)
  clear hb1
  rcases he with ⟨rfl, rfl⟩ | ⟨x, hx, rfl⟩
  · go_wp2
    go_returns
    first | exact ⟨HC1.out, .inl ⟨rfl, HH1.out, rfl⟩⟩ | exact ⟨HC1.out, .inl ⟨HH1.out, rfl⟩⟩
  · have HX := Lib.hid hx
    have HD := Lib.hid (Drop_any p F M x.f w1 HH1.out (wf_of (HH1.out.wl.1 x hx.1)))
    clear hx
    go_wp2_with fail
    refine HD.out.mono ?_
    rintro e w2 ⟨hc2, hk2, he⟩
    have HK := Lib.hid (And.intro hc2 hk2)
    clear hc2 hk2
    rcases he with ⟨_, rfl⟩ | ⟨_, rfl⟩
    all_goals (
      go_wp2_with fail
      go_returns
      exact ⟨HC1.out.trans HK.out.1, .inr ⟨x, HX.out, HK.out.2, rfl⟩⟩)
/-- What Put answers. -/
def putE (f : Int) : Int := if 0 ≤ f ∧ f ≤ 1023 then 0 else 3
def putM (x : E) (M : List E) : List E := if 0 ≤ x.f ∧ x.f ≤ 1023 then x :: wo x.f M else M
set_option maxHeartbeats 2000000 in
theorem Put_any (p : Nat) (F : List Nat) (M : List E) (x : E) (w : World) (h : PH w p F M) :
    Calls Try.prog 11 #[.pointer (some ⟨p, 0, none⟩), .int .i64 x.f, .int .i64 x.w] w fun e w' => e = .returned (.int .i64 (putE x.f)) ∧ ∃ F', Chg F F' w w' ∧ PH w' p F' (putM x M) := by
  have HH := Lib.hid h
  by_cases h0 : x.f < 0
  · have HE := Lib.hid (And.intro (show putE x.f = 3 from if_neg (by omega)) (show putM x M = M from if_neg (by omega)))
    clear h
    go_enter Try.func11, Try.ntmps11
    go_wp2
    go_ret
    rw [HE.out.1, HE.out.2]
    exact ⟨rfl, F, Chg.refl _ _, HH.out⟩
  · by_cases h1 : 1024 ≤ x.f
    · have HE := Lib.hid (And.intro (show putE x.f = 3 from if_neg (by omega)) (show putM x M = M from if_neg (by omega)))
      clear h
      go_enter Try.func11, Try.ntmps11
      go_wp2
      go_ret
      rw [HE.out.1, HE.out.2]
      exact ⟨rfl, F, Chg.refl _ _, HH.out⟩
    · have hr : 0 ≤ x.f ∧ x.f ≤ 1023 := by omega
      have HE := Lib.hid (And.intro (show putE x.f = 0 from if_pos hr) (show putM x M = x :: wo x.f M from if_pos hr))
      obtain ⟨L, ⟨⟨φ, h, hp⟩, hw, hm⟩, hh, hpm⟩ := h
      have hpw := pw_of hp
      have hll := len_le hpw hw
      obtain ⟨ao, cap, b, c0, c1, c2, fz, ht, hmx, hp0, hF, hpb, hpv, hbv⟩ := h.cells
      have hlk := hmx.look (wf_of hr)
      have HPM := Lib.hid (And.intro hpm (And.intro hh hpw))
      cases hφ : φ x.f with
      | none =>
        rw [hφ] at hlk
        simp only [Option.getD_none, Option.isSome_none] at hlk
        have hno := hp.none.1 hφ
        have HN := Lib.hid hno
        have HP := Lib.hid (HPush_any p F L x w ⟨⟨φ, h, hp⟩, hw, hm⟩ hr (by omega) hno)
        clear h hp hφ ht hmx hp0 hF hpb hpv hbv hno hpm hh hpw c0 c2 fz hw
        go_enter Try.func11, Try.ntmps11
        go_wp2_with fail
        refine HP.out.mono ?_
        rintro e w1 ⟨rfl, F1, hc1, hk1⟩
        have HK := Lib.hid (And.intro hc1 hk1)
        clear hc1 hk1
        go_wp2_with fail
        go_ret
        rw [HE.out.1, HE.out.2]
        have hperm : (upf (L ++ [x]) L.length).Perm (L ++ [x]) := (upf_perm (L ++ [x]).length (L ++ [x]) L.length (by simp) (Nat.le_refl _)).1
        refine ⟨rfl, F1, HK.out.1, _, HK.out.2, ?_, ?_⟩
        · rw [hperm.length_eq]
          exact push_heap HPM.out.2.1 x
        · refine hperm.trans ((List.perm_append_singleton x L).trans (List.Perm.cons x ?_))
          rw [wo_self (fun e he => HN.out e (HPM.out.1.mem_iff.2 he))]
          exact HPM.out.1
      | some v =>
        obtain ⟨i, hi, he, rfl⟩ := (hp x.f v).1 hφ
        rw [hφ] at hlk
        simp only [Option.getD_some, Option.isSome_some] at hlk
        obtain ⟨bk, cap', hv, hnc, hcm, hb, hcell, hff⟩ := ht.read (ne_nil_of_lt hi)
        cases hv
        obtain ⟨i0, i1⟩ := hcell i _ (get_g hi)
        have hiI : ((i : Nat) : Int) < ((L.length : Nat) : Int) := by omega
        have ht1 := ht.stored_w rfl i _ x.w (get_g hi)
        have hpk : p ≠ bk := fun e => hpv (by simp [vblk_some, e])
        have hbk : b ≠ bk := fun e => hbv (by simp [vblk_some, e])
        have hxe : (⟨(g L i).f, x.w⟩ : E) = x := by rw [he]
        have hset := hp.setw hi x.w
        rw [hxe] at ht1 hset
        have hk1 : Pk (w.setCell ⟨bk, i * 2 + 1, none⟩ (.int .i64 x.w)) p F (L.set i x) := by
          refine ⟨⟨φ, ⟨_, b, (Below.heap_setCell _ _ _ _ (fun e => hpk e)).trans hp0, ?_, ?_, hF, hpb, hpv, hbv⟩, hset⟩, fun e hm => ?_, by rw [List.length_set]; exact hm⟩
          · exact ht1
          · rw [List.length_set]
            exact hmx.of_block (Below.heap_setCell _ _ _ _ (fun e => hbk e))
          · rcases List.mem_or_eq_of_mem_set hm with hm | rfl
            · exact hw e hm
            · exact hr
        have hc1 : Chg F F w (w.setCell ⟨bk, i * 2 + 1, none⟩ (.int .i64 x.w)) := (Chg.refl F w).setCell _ _ _ (by rw [hF]; simp [vblk_some])
        have HI := Lib.hid (And.intro hi he)
        have hlen : (L.set i x).length = L.length := by simp
        have HX := Lib.hid (Fix_any p F (L.set i x) i _ hk1 (by rw [hlen]; exact hi))
        have HC1 := Lib.hid hc1
        clear h hp hφ ht hmx hp0 hF hpb hpv hbv hpm hh hpw c2 hw ht1 hset hk1 hc1 hcell he hxe fz
        rw [hlen] at HX
        go_enter Try.func11, Try.ntmps11
        go_wp2_with fail
        first | (go_region; go_wp2_with fail) | skip
        refine HX.out.mono ?_
        rintro e w2 ⟨rfl, hc2, hk2⟩
        have HK := Lib.hid (And.intro hc2 hk2)
        clear hc2 hk2
        go_wp2_with fail
        go_ret
        rw [HE.out.1, HE.out.2]
        obtain ⟨q1, q2, _⟩ := fix_perm L.length (L.set i x) i hi (by rw [hlen]; exact Nat.le_refl _)
        refine ⟨rfl, F, HC1.out.trans HK.out.1, _, HK.out.2, ?_, ?_⟩
        · rw [q2, hlen]
          exact setw_heap HPM.out.2.1 HI.out.1 x
        · exact q1.trans ((set_perm HPM.out.2.2 HI.out.1 HI.out.2.symm).trans (List.Perm.cons x (wo_perm HPM.out.1)))

end Go.Proofs.Ytekkblhghbkdiaa
