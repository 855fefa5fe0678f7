/- Parts of the proofs of layer 18 (gap): contracts of its functions, and the laws' walks. -/
import Derived.Test.YtkaglggljomgdaaProg
import Derived.WalkKit
import Derived.WalkSpells
import Derived.WalkLawsBesides
import Derived.BigQuiet
import Derived.Deep.QuietTactic
import Derived.Lib.Hide
import Derived.Deep.RegionHeld3
import Derived.Deep.DeepCutAuto
import Derived.KernelRfl
import Derived.Deep.OwnRows
import Derived.Laws.CopyOwn
import Derived.Laws.CopyRow
import Derived.StillTailTactics
import Derived.Deep.RegionLaw
import Derived.Test.YtkaglggljomgdaaH12
import Derived.OwnWalk
namespace Go.Proofs.Ytkaglggljomgdaa
open Go.RowKit
set_option linter.unusedVariables false
set_option linter.unusedSimpArgs false

theorem scan_bound (low n k : Int) (L : List (Int × Int)) : ∀ f g, Rg f L g → f ≤ (scan low n k L f).2 ∧ (scan low n k L f).2 ≤ g := by
  induction L with
  | nil => intro f g h; exact ⟨Int.le_refl _, h⟩
  | cons d L ih =>
    intro f g h
    obtain ⟨h1, h2, h3⟩ := h
    rw [scan]
    split
    · have := h3.le; simp only; omega
    · have := ih _ _ h3; omega
/-- What the closure of Room holds. -/
def Env (w : World) (A5 A6 A7 A10 : Nat) (lw n o : Int) : Prop :=
  w.heap[A5]? = some (.cells #[.int .i64 lw] 3 (0, 0)) ∧ w.heap[A6]? = some (.cells #[.int .i64 n] 3 (0, 0)) ∧ w.heap[A7]? = some (.cells #[.int .i64 o] 3 (0, 0)) ∧
    w.heap[A10]? = some (.cells #[.func (Fn.func 29) #[] #[.pointer (some ⟨A5, 0, none⟩), .pointer (some ⟨A6, 0, none⟩), .pointer (some ⟨A10, 0, none⟩), .pointer (some ⟨A7, 0, none⟩)]] 57 (0, 0))
theorem Env.drewN {w : World} {A5 A6 A7 A10 : Nat} {lw n o : Int} (h : Env w A5 A6 A7 A10 lw n o) (k : Nat) : Env (w.drewN k) A5 A6 A7 A10 lw n o := h
theorem Env.cells {w : World} {A5 A6 A7 A10 : Nat} {lw n o : Int} (h : Env w A5 A6 A7 A10 lw n o) :
    w.cell? ⟨A5, 0, none⟩ = some (.int .i64 lw) ∧ w.cell? ⟨A6, 0, none⟩ = some (.int .i64 n) ∧ w.cell? ⟨A7, 0, none⟩ = some (.int .i64 o) ∧
    w.cell? ⟨A10, 0, none⟩ = some (.func (Fn.func 29) #[] #[.pointer (some ⟨A5, 0, none⟩), .pointer (some ⟨A6, 0, none⟩), .pointer (some ⟨A10, 0, none⟩), .pointer (some ⟨A7, 0, none⟩)]) :=
  ⟨cell_of_one h.1, cell_of_one h.2.1, cell_of_one h.2.2.1, cell_of_one h.2.2.2⟩
set_option maxHeartbeats 4000000 in
theorem Room1_any (A5 A6 A7 A10 : Nat) (lw n o : Int) (hl0 : 1 ≤ lw ∧ lw ≤ 5000) (ho : 0 ≤ o ∧ o ≤ 8) (hn0 : 1 ≤ n) (t : Tr) : ∀ (v : Option Addr) (F : List Nat) (f : Int) (w : World), Env w A5 A6 A7 A10 lw n o → Nd w t v F → (1 ≤ f ∧ ∃ g, Rg f (tlist t) g ∧ g ≤ 4096) →
    Calls Try.prog 29 #[.pointer v, .int .i64 f, .pointer (some ⟨A5, 0, none⟩), .pointer (some ⟨A6, 0, none⟩), .pointer (some ⟨A10, 0, none⟩), .pointer (some ⟨A7, 0, none⟩)] w fun e w' => e = .returned (.tuple #[.int .i64 (roomT lw n (G.two o) t f).1, .int .i64 (roomT lw n (G.two o) t f).2]) ∧ ∃ m, w' = w.drewN m := by
  induction t with
  | nil =>
    intro v F f w hE hN hf
    obtain ⟨rfl, rfl⟩ := hN
    have HR0 := Lib.hid (show roomT lw n (G.two o) .nil f = (0, f) from rfl)
    clear hE hf
    go_enter Try.func29, Try.ntmps29
    go_wp2_with fail
    refine bodyPost_ret (v := .tuple #[.int .i64 0, .int .i64 f]) (by simp [results, Try.results29, go_sem]) rfl ⟨by rw [HR0.out], 0, rfl⟩
  | nd a b l r ihl ihr =>
    intro v F f w0 hE hN hf
    obtain ⟨k, rfl, _⟩ := hN.pn
    obtain ⟨hf1, g, hrg, hg⟩ := hf
    have hsz := two_size o ho
    have hv : Vals (.nd a b l r) := hrg.vals (by omega) (by omega)
    have v1 := vals_fst _ hv
    have v2 := vals_lst _ hv
    have v3 := vals_gp _ hv
    have hff : f ≤ 4096 := by have := hrg.le; omega
    have hw1 : IntKind.i64.wrap (fst (.nd a b l r) - f) = fst (.nd a b l r) - f := by rw [IntKind.wrap_i64]; omega
    have hR0 : roomT lw n (G.two o) (.nd a b l r) f = roomT lw n (G.two o) (.nd a b l r) f := rfl
    conv at hR0 => rhs; rw [roomT]
    have hsp := hrg
    rw [tlist, Rg_append] at hsp
    obtain ⟨hs1, hs2, hs3⟩ := hsp
    have hlb := scan_bound lw n (G.two o) (tlist l) _ _ hs1
    rw [← roomT_scan lw n (G.two o) hsz.1 hn0 l f _ hf1 hs1] at hlb
    simp only at hlb hs1 hs2 hs3
    have hab : 1 ≤ a ∧ a ≤ 4096 ∧ 1 ≤ b ∧ b ≤ 4096 := by
      have := hs1.le
      have := hs3.le
      omega
    have HFL := Lib.hid (show 1 ≤ f ∧ ∃ g, Rg f (tlist l) g ∧ g ≤ 4096 from ⟨hf1, a, hs1, by omega⟩)
    have HFR := Lib.hid (show 1 ≤ b ∧ ∃ g, Rg b (tlist r) g ∧ g ≤ 4096 from ⟨by omega, g, hs3, hg⟩)
    have HS := Lib.hid (And.intro hE hN)
    have HW : RowKit.Hid (∃ m, w0 = w0.drewN m) := Lib.hid ⟨0, rfl⟩
    obtain ⟨p1, p2, hp⟩ : ∃ p1 p2, roomT lw n (G.two o) l f = (p1, p2) := ⟨_, _, rfl⟩
    obtain ⟨r1, r2, hr⟩ : ∃ r1 r2, roomT lw n (G.two o) r b = (r1, r2) := ⟨_, _, rfl⟩
    obtain ⟨Q, hQ⟩ : ∃ Q, fitI lw n (G.two o) p2 a = Q := ⟨_, rfl⟩
    rw [hp] at hlb hR0
    simp only at hlb hR0
    rw [hr, hQ] at hR0
    have hpr : 1 ≤ p2 ∧ p2 ≤ 5000 := by omega
    have HPQ := Lib.hid (And.intro hp (And.intro hr hQ))
    clear hp hr hQ
    obtain ⟨FS, hFS⟩ : ∃ x, fst (.nd a b l r) = x := ⟨_, rfl⟩
    obtain ⟨LS, hLS⟩ : ∃ x, lst (.nd a b l r) = x := ⟨_, rfl⟩
    obtain ⟨GP, hGP⟩ : ∃ x, gp (.nd a b l r) = x := ⟨_, rfl⟩
    rw [hFS] at v1 hw1 hR0
    rw [hLS] at v2 hR0
    rw [hGP] at v3 hR0
    have HV := Lib.hid (And.intro hFS (And.intro hLS hGP))
    have HR0 := Lib.hid hR0
    clear hE hN hrg hv hs1 hs2 hs3 hR0 hFS hLS hGP hsz
    obtain ⟨hE, hN⟩ := id HS.out
    obtain ⟨k', vl, vr, Fl, Fr, e1, hn, hl, hr, e2, _, _, _⟩ := hN
    cases e1
    obtain ⟨k0, k1, k2, k3, k4, k5, k6, k7, k8⟩ := nc_cells hn
    obtain ⟨q5, q6, q7, q10⟩ := hE.cells
    have HL := Lib.hid (fun j => by have := ihl vl Fl f (w0.drewN j) (hE.drewN j) (hl.drewN j) HFL.out; rw [HPQ.out.1] at this; exact this)
    have HR := Lib.hid (fun j => by have := ihr vr Fr b (w0.drewN j) (hE.drewN j) (hr.drewN j) HFR.out; rw [HPQ.out.2.1] at this; exact this)
    have HFIT := Lib.hid (fun j => by have := fit_any p2 a lw n o (w0.drewN j) hpr (by omega) hl0 ho hn0; rw [HPQ.out.2.2] at this; exact this.mono fun _ _ h => (⟨h.1, h.2.symm⟩ : _ ∧ _))
    clear hn hl hr hE e2
    rw [HV.out.1] at k5
    rw [HV.out.2.1] at k6
    rw [HV.out.2.2] at k7
    go_enter Try.func29, Try.ntmps29
    go_upto_region 3 with fail
    by_cases c1 : LS ≤ lw
    · rw [if_pos (.inl c1)] at HR0
      go_quiet (fail)
      go_upto_region 4 with fail
      go_quiet (fail)
      go_wp2_with fail
      refine bodyPost_ret (v := .tuple #[.int .i64 0, .int .i64 LS]) (by simp [results, Try.results29, go_sem]) rfl ⟨by rw [HR0.out], ?_⟩
      obtain ⟨m, hm⟩ := HW.out
      first | exact ⟨m, hm⟩ | exact ⟨_, by rw [hm, World.drewN_drewN]⟩
    · by_cases c2 : GP < n
      · by_cases c3 : FS - f < n
        · rw [if_pos (.inr ⟨c2, c3⟩)] at HR0
          go_quiet (fail)
          go_upto_region 4 with fail
          go_quiet (fail)
          go_wp2_with fail
          refine bodyPost_ret (v := .tuple #[.int .i64 0, .int .i64 LS]) (by simp [results, Try.results29, go_sem]) rfl ⟨by rw [HR0.out], ?_⟩
          obtain ⟨m, hm⟩ := HW.out
          first | exact ⟨m, hm⟩ | exact ⟨_, by rw [hm, World.drewN_drewN]⟩
        · rw [if_neg (by omega)] at HR0
          go_quiet (fail)
          go_upto_region 5 with fail
          replace HS : RowKit.Hid (Env (w0.drewN nq) A5 A6 A7 A10 lw n o ∧ Nd (w0.drewN nq) (.nd a b l r) (some ⟨k, 0, none⟩) F) := Lib.hid ⟨HS.out.1.drewN nq, HS.out.2.drewN nq⟩
          have HW2 : RowKit.Hid (∃ m, w0.drewN nq = w0.drewN m) := Lib.hid (by first | exact ⟨nq, rfl⟩ | (obtain ⟨m, hm⟩ := HW.out; exact ⟨m + nq, by rw [hm, World.drewN_drewN]⟩))
          clear HW HL HR HFIT q5 q6 q7 q10 k0 k1 k2 k3 k4 k5 k6 k7 k8
          generalize w0.drewN nq = w1 at *
          have HW := HW2
          clear HW2
          obtain ⟨hE, hN⟩ := id HS.out
          obtain ⟨k', vl, vr, Fl, Fr, e1, hn, hl, hr, e2, _, _, _⟩ := hN
          cases e1
          obtain ⟨k0, k1, k2, k3, k4, k5, k6, k7, k8⟩ := nc_cells hn
          obtain ⟨q5, q6, q7, q10⟩ := hE.cells
          have HL := Lib.hid (fun j => by have := ihl vl Fl f (w1.drewN j) (hE.drewN j) (hl.drewN j) HFL.out; rw [HPQ.out.1] at this; exact this)
          have HR := Lib.hid (fun j => by have := ihr vr Fr b (w1.drewN j) (hE.drewN j) (hr.drewN j) HFR.out; rw [HPQ.out.2.1] at this; exact this)
          have HFIT := Lib.hid (fun j => by have := fit_any p2 a lw n o (w1.drewN j) hpr (by omega) hl0 ho hn0; rw [HPQ.out.2.2] at this; exact this.mono fun _ _ h => (⟨h.1, h.2.symm⟩ : _ ∧ _))
          clear hn hl hr hE e2
          go_quiet ((go_at_call 29; exact Calls.quiet_of (HL.out _)))
          by_cases c4 : 0 < p1
          · rw [if_pos c4] at HR0
            go_wp2_with fail
            refine bodyPost_ret (v := .tuple #[.int .i64 p1, .int .i64 p2]) (by simp [results, Try.results29, go_sem]) rfl ⟨by rw [HR0.out], ?_⟩
            obtain ⟨m, hm⟩ := HW.out
            first | exact ⟨m, hm⟩ | exact ⟨_, by rw [hm, World.drewN_drewN]⟩
          · rw [if_neg c4] at HR0
            go_upto_region 8 with fail
            replace HS : RowKit.Hid (Env (w1.drewN nq) A5 A6 A7 A10 lw n o ∧ Nd (w1.drewN nq) (.nd a b l r) (some ⟨k, 0, none⟩) F) := Lib.hid ⟨HS.out.1.drewN nq, HS.out.2.drewN nq⟩
            have HW2 : RowKit.Hid (∃ m, w1.drewN nq = w0.drewN m) := Lib.hid (by first | exact ⟨nq, rfl⟩ | (obtain ⟨m, hm⟩ := HW.out; exact ⟨m + nq, by rw [hm, World.drewN_drewN]⟩))
            clear HW HL HR HFIT q5 q6 q7 q10 k0 k1 k2 k3 k4 k5 k6 k7 k8
            generalize w1.drewN nq = w2 at *
            have HW := HW2
            clear HW2
            obtain ⟨hE, hN⟩ := id HS.out
            obtain ⟨k', vl, vr, Fl, Fr, e1, hn, hl, hr, e2, _, _, _⟩ := hN
            cases e1
            obtain ⟨k0, k1, k2, k3, k4, k5, k6, k7, k8⟩ := nc_cells hn
            obtain ⟨q5, q6, q7, q10⟩ := hE.cells
            have HL := Lib.hid (fun j => by have := ihl vl Fl f (w2.drewN j) (hE.drewN j) (hl.drewN j) HFL.out; rw [HPQ.out.1] at this; exact this)
            have HR := Lib.hid (fun j => by have := ihr vr Fr b (w2.drewN j) (hE.drewN j) (hr.drewN j) HFR.out; rw [HPQ.out.2.1] at this; exact this)
            have HFIT := Lib.hid (fun j => by have := fit_any p2 a lw n o (w2.drewN j) hpr (by omega) hl0 ho hn0; rw [HPQ.out.2.2] at this; exact this.mono fun _ _ h => (⟨h.1, h.2.symm⟩ : _ ∧ _))
            clear hn hl hr hE e2
            go_quiet ((go_at_call 30; exact Calls.quiet_of_same (HFIT.out _)))
            by_cases c5 : 0 < Q
            · rw [if_pos c5] at HR0
              go_wp2_with fail
              refine bodyPost_ret (v := .tuple #[.int .i64 Q, .int .i64 p2]) (by simp [results, Try.results29, go_sem]) rfl ⟨by rw [HR0.out], ?_⟩
              obtain ⟨m, hm⟩ := HW.out
              first | exact ⟨m, hm⟩ | exact ⟨_, by rw [hm, World.drewN_drewN]⟩
            · rw [if_neg c5] at HR0
              go_upto_region 11 with fail
              replace HS : RowKit.Hid (Env (w2.drewN nq) A5 A6 A7 A10 lw n o ∧ Nd (w2.drewN nq) (.nd a b l r) (some ⟨k, 0, none⟩) F) := Lib.hid ⟨HS.out.1.drewN nq, HS.out.2.drewN nq⟩
              have HW2 : RowKit.Hid (∃ m, w2.drewN nq = w0.drewN m) := Lib.hid (by first | exact ⟨nq, rfl⟩ | (obtain ⟨m, hm⟩ := HW.out; exact ⟨m + nq, by rw [hm, World.drewN_drewN]⟩))
              clear HW HL HR HFIT q5 q6 q7 q10 k0 k1 k2 k3 k4 k5 k6 k7 k8
              generalize w2.drewN nq = w3 at *
              have HW := HW2
              clear HW2
              obtain ⟨hE, hN⟩ := id HS.out
              obtain ⟨k', vl, vr, Fl, Fr, e1, hn, hl, hr, e2, _, _, _⟩ := hN
              cases e1
              obtain ⟨k0, k1, k2, k3, k4, k5, k6, k7, k8⟩ := nc_cells hn
              obtain ⟨q5, q6, q7, q10⟩ := hE.cells
              have HL := Lib.hid (fun j => by have := ihl vl Fl f (w3.drewN j) (hE.drewN j) (hl.drewN j) HFL.out; rw [HPQ.out.1] at this; exact this)
              have HR := Lib.hid (fun j => by have := ihr vr Fr b (w3.drewN j) (hE.drewN j) (hr.drewN j) HFR.out; rw [HPQ.out.2.1] at this; exact this)
              have HFIT := Lib.hid (fun j => by have := fit_any p2 a lw n o (w3.drewN j) hpr (by omega) hl0 ho hn0; rw [HPQ.out.2.2] at this; exact this.mono fun _ _ h => (⟨h.1, h.2.symm⟩ : _ ∧ _))
              clear hn hl hr hE e2
              go_quiet ((go_at_call 29; exact Calls.quiet_of (HR.out _)))
              go_wp2_with fail
              refine bodyPost_ret (v := .tuple #[.int .i64 r1, .int .i64 r2]) (by simp [results, Try.results29, go_sem]) rfl ⟨by rw [HR0.out], ?_⟩
              obtain ⟨m, hm⟩ := HW.out
              first | exact ⟨m, hm⟩ | exact ⟨_, by rw [hm, World.drewN_drewN]⟩
      · rw [if_neg (by omega)] at HR0
        go_quiet (fail)
        go_upto_region 5 with fail
        replace HS : RowKit.Hid (Env (w0.drewN nq) A5 A6 A7 A10 lw n o ∧ Nd (w0.drewN nq) (.nd a b l r) (some ⟨k, 0, none⟩) F) := Lib.hid ⟨HS.out.1.drewN nq, HS.out.2.drewN nq⟩
        have HW2 : RowKit.Hid (∃ m, w0.drewN nq = w0.drewN m) := Lib.hid (by first | exact ⟨nq, rfl⟩ | (obtain ⟨m, hm⟩ := HW.out; exact ⟨m + nq, by rw [hm, World.drewN_drewN]⟩))
        clear HW HL HR HFIT q5 q6 q7 q10 k0 k1 k2 k3 k4 k5 k6 k7 k8
        generalize w0.drewN nq = w1 at *
        have HW := HW2
        clear HW2
        obtain ⟨hE, hN⟩ := id HS.out
        obtain ⟨k', vl, vr, Fl, Fr, e1, hn, hl, hr, e2, _, _, _⟩ := hN
        cases e1
        obtain ⟨k0, k1, k2, k3, k4, k5, k6, k7, k8⟩ := nc_cells hn
        obtain ⟨q5, q6, q7, q10⟩ := hE.cells
        have HL := Lib.hid (fun j => by have := ihl vl Fl f (w1.drewN j) (hE.drewN j) (hl.drewN j) HFL.out; rw [HPQ.out.1] at this; exact this)
        have HR := Lib.hid (fun j => by have := ihr vr Fr b (w1.drewN j) (hE.drewN j) (hr.drewN j) HFR.out; rw [HPQ.out.2.1] at this; exact this)
        have HFIT := Lib.hid (fun j => by have := fit_any p2 a lw n o (w1.drewN j) hpr (by omega) hl0 ho hn0; rw [HPQ.out.2.2] at this; exact this.mono fun _ _ h => (⟨h.1, h.2.symm⟩ : _ ∧ _))
        clear hn hl hr hE e2
        go_quiet ((go_at_call 29; exact Calls.quiet_of (HL.out _)))
        by_cases c4 : 0 < p1
        · rw [if_pos c4] at HR0
          go_wp2_with fail
          refine bodyPost_ret (v := .tuple #[.int .i64 p1, .int .i64 p2]) (by simp [results, Try.results29, go_sem]) rfl ⟨by rw [HR0.out], ?_⟩
          obtain ⟨m, hm⟩ := HW.out
          first | exact ⟨m, hm⟩ | exact ⟨_, by rw [hm, World.drewN_drewN]⟩
        · rw [if_neg c4] at HR0
          go_upto_region 8 with fail
          replace HS : RowKit.Hid (Env (w1.drewN nq) A5 A6 A7 A10 lw n o ∧ Nd (w1.drewN nq) (.nd a b l r) (some ⟨k, 0, none⟩) F) := Lib.hid ⟨HS.out.1.drewN nq, HS.out.2.drewN nq⟩
          have HW2 : RowKit.Hid (∃ m, w1.drewN nq = w0.drewN m) := Lib.hid (by first | exact ⟨nq, rfl⟩ | (obtain ⟨m, hm⟩ := HW.out; exact ⟨m + nq, by rw [hm, World.drewN_drewN]⟩))
          clear HW HL HR HFIT q5 q6 q7 q10 k0 k1 k2 k3 k4 k5 k6 k7 k8
          generalize w1.drewN nq = w2 at *
          have HW := HW2
          clear HW2
          obtain ⟨hE, hN⟩ := id HS.out
          obtain ⟨k', vl, vr, Fl, Fr, e1, hn, hl, hr, e2, _, _, _⟩ := hN
          cases e1
          obtain ⟨k0, k1, k2, k3, k4, k5, k6, k7, k8⟩ := nc_cells hn
          obtain ⟨q5, q6, q7, q10⟩ := hE.cells
          have HL := Lib.hid (fun j => by have := ihl vl Fl f (w2.drewN j) (hE.drewN j) (hl.drewN j) HFL.out; rw [HPQ.out.1] at this; exact this)
          have HR := Lib.hid (fun j => by have := ihr vr Fr b (w2.drewN j) (hE.drewN j) (hr.drewN j) HFR.out; rw [HPQ.out.2.1] at this; exact this)
          have HFIT := Lib.hid (fun j => by have := fit_any p2 a lw n o (w2.drewN j) hpr (by omega) hl0 ho hn0; rw [HPQ.out.2.2] at this; exact this.mono fun _ _ h => (⟨h.1, h.2.symm⟩ : _ ∧ _))
          clear hn hl hr hE e2
          go_quiet ((go_at_call 30; exact Calls.quiet_of_same (HFIT.out _)))
          by_cases c5 : 0 < Q
          · rw [if_pos c5] at HR0
            go_wp2_with fail
            refine bodyPost_ret (v := .tuple #[.int .i64 Q, .int .i64 p2]) (by simp [results, Try.results29, go_sem]) rfl ⟨by rw [HR0.out], ?_⟩
            obtain ⟨m, hm⟩ := HW.out
            first | exact ⟨m, hm⟩ | exact ⟨_, by rw [hm, World.drewN_drewN]⟩
          · rw [if_neg c5] at HR0
            go_upto_region 11 with fail
            replace HS : RowKit.Hid (Env (w2.drewN nq) A5 A6 A7 A10 lw n o ∧ Nd (w2.drewN nq) (.nd a b l r) (some ⟨k, 0, none⟩) F) := Lib.hid ⟨HS.out.1.drewN nq, HS.out.2.drewN nq⟩
            have HW2 : RowKit.Hid (∃ m, w2.drewN nq = w0.drewN m) := Lib.hid (by first | exact ⟨nq, rfl⟩ | (obtain ⟨m, hm⟩ := HW.out; exact ⟨m + nq, by rw [hm, World.drewN_drewN]⟩))
            clear HW HL HR HFIT q5 q6 q7 q10 k0 k1 k2 k3 k4 k5 k6 k7 k8
            generalize w2.drewN nq = w3 at *
            have HW := HW2
            clear HW2
            obtain ⟨hE, hN⟩ := id HS.out
            obtain ⟨k', vl, vr, Fl, Fr, e1, hn, hl, hr, e2, _, _, _⟩ := hN
            cases e1
            obtain ⟨k0, k1, k2, k3, k4, k5, k6, k7, k8⟩ := nc_cells hn
            obtain ⟨q5, q6, q7, q10⟩ := hE.cells
            have HL := Lib.hid (fun j => by have := ihl vl Fl f (w3.drewN j) (hE.drewN j) (hl.drewN j) HFL.out; rw [HPQ.out.1] at this; exact this)
            have HR := Lib.hid (fun j => by have := ihr vr Fr b (w3.drewN j) (hE.drewN j) (hr.drewN j) HFR.out; rw [HPQ.out.2.1] at this; exact this)
            have HFIT := Lib.hid (fun j => by have := fit_any p2 a lw n o (w3.drewN j) hpr (by omega) hl0 ho hn0; rw [HPQ.out.2.2] at this; exact this.mono fun _ _ h => (⟨h.1, h.2.symm⟩ : _ ∧ _))
            clear hn hl hr hE e2
            go_quiet ((go_at_call 29; exact Calls.quiet_of (HR.out _)))
            go_wp2_with fail
            refine bodyPost_ret (v := .tuple #[.int .i64 r1, .int .i64 r2]) (by simp [results, Try.results29, go_sem]) rfl ⟨by rw [HR0.out], ?_⟩
            obtain ⟨m, hm⟩ := HW.out
            first | exact ⟨m, hm⟩ | exact ⟨_, by rw [hm, World.drewN_drewN]⟩

end Go.Proofs.Ytkaglggljomgdaa
