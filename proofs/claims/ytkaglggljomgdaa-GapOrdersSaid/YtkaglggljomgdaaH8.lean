/- Parts of the proofs of layer 18 (gap): contracts of its functions, and the laws' walks. -/
import Derived.Test.YtkaglggljomgdaaProg
import Derived.WalkKit
import Derived.WalkSpells
import Derived.WalkLawsBesides
import Derived.BigQuiet
import Derived.Deep.QuietTactic
import Derived.Lib.Hide
import Derived.Deep.RegionHeld3
import Derived.Deep.DeepCutAuto
import Derived.KernelRfl
import Derived.Deep.OwnRows
import Derived.Laws.CopyOwn
import Derived.Laws.CopyRow
import Derived.StillTailTactics
import Derived.Deep.RegionLaw
import Derived.Test.YtkaglggljomgdaaH7
import Derived.OwnWalk
namespace Go.Proofs.Ytkaglggljomgdaa
open Go.RowKit
set_option linter.unusedVariables false
set_option linter.unusedSimpArgs false

def wrg (x y : Int) : Int := if x < 1 ∨ 4096 < y ∨ y ≤ x then 3 else 0
theorem wrong_nil (x y : Int) (w : World) : Calls Try.prog 33 #[.pointer none, .int .i64 x, .int .i64 y] w fun e w' => e = .returned (.int .i64 1) ∧ w = w' := by
  go_enter Try.func33, Try.ntmps33
  go_wp2
  go_ret
  exact ⟨rfl, rfl⟩
theorem wrong_any (a : Addr) (x y : Int) (w : World) : Calls Try.prog 33 #[.pointer (some a), .int .i64 x, .int .i64 y] w fun e w' => e = .returned (.int .i64 (wrg x y)) ∧ w = w' := by
  unfold wrg
  by_cases h1 : x < 1
  · go_enter Try.func33, Try.ntmps33
    go_wp2
    go_ret
    exact ⟨by simp [h1], rfl⟩
  · by_cases h2 : 4096 < y
    · go_enter Try.func33, Try.ntmps33
      go_wp2
      go_ret
      exact ⟨by simp [h1, h2], rfl⟩
    · by_cases h3 : y ≤ x
      · go_enter Try.func33, Try.ntmps33
        go_wp2
        go_ret
        exact ⟨by simp [h1, h2, h3], rfl⟩
      · go_enter Try.func33, Try.ntmps33
        go_wp2
        go_ret
        exact ⟨by simp [h1, h2, h3], rfl⟩
def meetT : Tr → Int → Int → Option (Int × Int)
  | .nil, _, _ => none
  | .nd a b l r, x, y => if y ≤ a then meetT l x y else if b ≤ x then meetT r x y else
      match l with
      | .nil => some (a, b)
      | .nd c d l1 l2 => if lst (.nd c d l1 l2) ≤ x then some (a, b) else (meetT (.nd c d l1 l2) x y).or (some (a, b))
theorem meetT_l {a b : Int} {l r : Tr} {x y : Int} (h : y ≤ a) : meetT (.nd a b l r) x y = meetT l x y := by cases l <;> simp [meetT, h]
theorem meetT_r {a b : Int} {l r : Tr} {x y : Int} (h : ¬ y ≤ a) (h2 : b ≤ x) : meetT (.nd a b l r) x y = meetT r x y := by cases l <;> simp [meetT, h, h2]
/-- A node's pointer, or none. -/
def Res (w : World) : Option (Int × Int) → Option Addr → Prop
  | none, v => v = none
  | some e, v => ∃ k h f l g m vl vr, v = some ⟨k, 0, none⟩ ∧ w.heap[k]? = some (nc e.1 e.2 vl vr h f l g m)
/-- The height that a node's cell tells. -/
def phi (w : World) : Value → Nat
  | .pointer (some a) => match w.cell? ⟨a.block, 4, none⟩ with
    | some (.int _ h) => h.toNat
    | _ => 0
  | _ => 0
theorem phi_nd {w : World} {t : Tr} {v : Option Addr} {F : List Nat} (h : Nd w t v F) : phi w (.pointer v) = (ht t).toNat := by
  cases t with
  | nil => obtain ⟨rfl, _⟩ := h; rfl
  | nd a b l r =>
    obtain ⟨n, vl, vr, Fl, Fr, rfl, hn, _⟩ := h
    obtain ⟨c0, c1, c2, c3, c4, c5, c6, c7, c8⟩ := nc_cells hn
    simp only [phi, c4]
theorem phi_left {w : World} {a b : Int} {l r : Tr} {n : Nat} {vl : Option Addr} {F Fl : List Nat} (h : Nd w (.nd a b l r) (some ⟨n, 0, none⟩) F) (hl : Nd w l vl Fl) : phi w (.pointer vl) < phi w (.pointer (some ⟨n, 0, none⟩)) := by
  rw [phi_nd h, phi_nd hl]
  have := ht_nonneg l
  rw [ht]; omega
theorem phi_right {w : World} {a b : Int} {l r : Tr} {n : Nat} {vl : Option Addr} {F Fl : List Nat} (h : Nd w (.nd a b l r) (some ⟨n, 0, none⟩) F) (hl : Nd w r vl Fl) : phi w (.pointer vl) < phi w (.pointer (some ⟨n, 0, none⟩)) := by
  rw [phi_nd h, phi_nd hl]
  have := ht_nonneg r
  rw [ht]; omega
set_option maxHeartbeats 2000000 in
theorem meets_any (g : Nat) (x y : Int) (t : Tr) (v : Option Addr) (F : List Nat) (w : World) (hg : w.heap[g]? = some (.cells #[.pointer v] 64 (0, 0))) (h : Nd w t v F) :
    Calls Try.prog 34 #[.pointer (some ⟨g, 0, none⟩), .int .i64 x, .int .i64 y] w fun e w' => ∃ u, e = .returned (.pointer u) ∧ w = w' ∧ Res w (meetT t x y) u := by
  have c0 := cell_of_one hg
  have fz := fun j => frozen_of_row w g j _ 64 hg
  obtain ⟨R, hR⟩ : ∃ R, meetT t x y = R := ⟨_, rfl⟩
  rw [hR]
  have HR0 := Lib.hid hR
  have HN := Lib.hid h
  clear hR h hg
  go_enter Try.func34, Try.ntmps34
  go_wp2_with fail
  go_step3
  go_wp2_with fail
  go_step3
  go_wp2_with fail
  go_loopw [7, 8] (fun s o wr => ∃ (t' : Tr) (v' : Option Addr) (F' : List Nat) (p : Option (Int × Int)) (vo : Option Addr), s = .pointer v' ∧ o = .pointer vo ∧ wr = w ∧ RowKit.Hid (Nd w t' v' F' ∧ Res w p vo ∧ (meetT t' x y).or p = R)) (fun s _ wr => phi wr s)
  case atStart => exact ⟨t, v, F, none, none, rfl, rfl, rfl, Lib.hid ⟨HN.out, rfl, by rw [HR0.out]; simp⟩⟩
  case round =>
    obtain ⟨t', v', F', p, vo, rfl, rfl, rfl, HI⟩ := hrel
    obtain ⟨hn', hrs, hR⟩ := HI.out
    cases t' with
    | nil =>
      obtain ⟨rfl, rfl⟩ := hn'
      have hR' : p = R := by rw [← hR, meetT]; rfl
      subst hR'
      have HRS := Lib.hid hrs
      clear HI hrs hR
      go_wp2_with fail
      try rw [Exit.noGoto_ret]
      go_ret
      exact ⟨_, rfl, rfl, HRS.out⟩
    | nd a b l r =>
      have hnd := hn'
      obtain ⟨n, vl, vr, Fl, Fr, rfl, hn, hl, hr, rfl, h1, h2, h3⟩ := hn'
      have HM := Lib.hid (And.intro (phi_left hnd hl) (phi_right hnd hr))
      have HL := Lib.hid (And.intro hl hr)
      obtain ⟨k0, k1, k2, k3, k4, k5, k6, k7, k8⟩ := nc_cells hn
      by_cases hy : y ≤ a
      · have HI2 : RowKit.Hid (Nd wr l vl Fl ∧ Res wr p vo ∧ (meetT l x y).or p = R) := Lib.hid ⟨hl, hrs, by rw [← hR, meetT_l hy]⟩
        clear HI hrs hR hnd hn hl hr k1 k3 k4 k5 k6 k7 k8
        go_wp2_with fail
        exact ⟨⟨l, vl, Fl, p, vo, (by first | rfl | trivial), (by first | rfl | trivial), (by first | rfl | trivial), HI2⟩, HM.out.1⟩
      · by_cases hx : b ≤ x
        · have HI2 : RowKit.Hid (Nd wr r vr Fr ∧ Res wr p vo ∧ (meetT r x y).or p = R) := Lib.hid ⟨hr, hrs, by rw [← hR, meetT_r hy hx]⟩
          clear HI hrs hR hnd hn hl hr k2 k4 k5 k6 k7 k8
          go_wp2_with fail
          exact ⟨⟨r, vr, Fr, p, vo, (by first | rfl | trivial), (by first | rfl | trivial), (by first | rfl | trivial), HI2⟩, HM.out.2⟩
        · have HRS := Lib.hid (show Res wr (some (a, b)) (some ⟨n, 0, none⟩) from ⟨n, _, _, _, _, _, vl, vr, rfl, hn⟩)
          cases l with
          | nil =>
            obtain ⟨rfl, rfl⟩ := hl
            have HR2 := Lib.hid (show some (a, b) = R from by rw [← hR, meetT, if_neg hy, if_neg hx]; rfl)
            clear HI hrs hR hnd hn hr k3 k4 k5 k6 k7 k8
            go_wp2_with fail
            try rw [Exit.noGoto_ret]
            go_ret
            exact ⟨_, rfl, rfl, by rw [← HR2.out]; exact HRS.out⟩
          | nd c d l1 l2 =>
            obtain ⟨ln, _, _, _, _, e1, hln, _, _, _, _⟩ := id hl
            subst e1
            obtain ⟨m0, m1, m2, m3, m4, m5, m6, m7, m8⟩ := nc_cells hln
            by_cases hlx : lst (.nd c d l1 l2) ≤ x
            · have HR2 := Lib.hid (show some (a, b) = R from by rw [← hR, meetT, if_neg hy, if_neg hx]; simp only [if_pos hlx]; rfl)
              clear HI hrs hR hnd hn hr hl hln k3 k4 k5 k6 k7 k8 m0 m1 m2 m3 m4 m5 m7 m8
              go_wp2_with fail
              try rw [Exit.noGoto_ret]
              go_ret
              exact ⟨_, rfl, rfl, by rw [← HR2.out]; exact HRS.out⟩
            · have HI2 : RowKit.Hid (Nd wr (.nd c d l1 l2) (some ⟨ln, 0, none⟩) Fl ∧ Res wr (some (a, b)) (some ⟨n, 0, none⟩) ∧ (meetT (.nd c d l1 l2) x y).or (some (a, b)) = R) := Lib.hid ⟨hl, HRS.out, by rw [← hR, meetT, if_neg hy, if_neg hx]; simp only [if_neg hlx]; cases meetT (.nd c d l1 l2) x y <;> rfl⟩
              clear HI hrs hR hnd hn hr hl hln k3 k4 k5 k6 k7 k8 m0 m1 m2 m3 m4 m5 m7 m8
              go_wp2_with fail
              exact ⟨⟨.nd c d l1 l2, some ⟨ln, 0, none⟩, Fl, some (a, b), some ⟨n, 0, none⟩, (by first | rfl | trivial), (by first | rfl | trivial), (by first | rfl | trivial), HI2⟩, HM.out.1⟩

end Go.Proofs.Ytkaglggljomgdaa
