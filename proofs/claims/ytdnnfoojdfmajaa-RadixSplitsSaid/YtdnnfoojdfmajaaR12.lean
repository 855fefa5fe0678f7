/- Parts of the proofs of layer 19 (radix): contracts of its functions, and the laws' walks. -/
import Derived.Test.YtdnnfoojdfmajaaProg
import Derived.WalkKit
import Derived.WalkSpells
import Derived.WalkLawsBesides
import Derived.BigQuiet
import Derived.Deep.QuietTactic
import Derived.Lib.Hide
import Derived.Deep.RegionHeld3
import Derived.Deep.DeepCutAuto
import Derived.KernelRfl
import Derived.Deep.OwnRows
import Derived.Laws.CopyOwn
import Derived.Laws.CopyRow
import Derived.StillTailTactics
import Derived.Deep.RegionLaw
import Derived.Handy
import Derived.Deep.CutRange
import Derived.Deep.CutBlock
import Derived.Test.YtdnnfoojdfmajaaR11
namespace Go.Proofs.Ytdnnfoojdfmajaa
open Go.RowKit
set_option linter.unusedVariables false
set_option linter.unusedSimpArgs false

set_option maxHeartbeats 4000000 in
theorem count_any (b : Nat) (ao : Option Addr) (cap : Nat) (L : List X) (w : World) (hc : w.cell? ⟨b, 0, none⟩ = some (.slice ao L.length cap)) (hT : TM w (.slice ao L.length cap) L) (hg : Good L) :
    Calls Try.prog 37 #[.pointer (some ⟨b, 0, none⟩)] w fun e w' => ∃ o, Out L L.length 3 o ∧ e = .returned (.int .i64 ((o.length + 1 : Nat) : Int)) ∧ Below w.heap.size w w' := by
  have HP := Lib.hid (prefixes_any ao cap L w hT hg)
  clear hT
  go_enter Try.func37, Try.ntmps37
  go_wp2_with fail
  refine HP.out.mono ?_
  rintro e w1 ⟨o, vo, rfl, ho, hp, hb, hol⟩
  obtain ⟨ao1, cap1, rfl, h1, h2⟩ := Sq.slice hp
  have HO := Lib.hid (And.intro ho hb)
  have hw : wrap64 (1 + ((o.length : Nat) : Int)) = 1 + ((o.length : Nat) : Int) := IntWalk.wrap64_in _ (by omega)
  have HW := Lib.hid hw
  clear ho hp hb h1 h2
  go_wp2_with fail
  go_ret
  exact ⟨o, HO.out.1, by show Ending.returned (.int .i64 (1 + ((o.length : Nat) : Int))) = _; congr 2; omega, HO.out.2⟩
/-- The tables' struct and its row, all new. -/
def Xt (w0 w : World) (D : Nat) (l : List X) (vt : Value) : Prop := w.heap[D]? = some (.cells #[vt] 82 (0, 0)) ∧ TM w vt l ∧ D ∉ vblk vt ∧ Chg [] (D :: vblk vt) w0 w
theorem growX {w0 W w' : World} {v v' : Value} {D : Nat} {l : List X} {k : X} {ob : Obj} (hown : Sq w' 86 9 v' (l.length + 1) (tcs l ++ tcs [k])) (hgr : Chg (vblk v) (vblk v') (W.alloc ob) w') (h : Xt w0 W D l v) :
    w'.cell? ⟨D, 0, none⟩ = some v ∧ w'.frozen? ⟨D, 0, none⟩ = false ∧ Xt w0 (w'.setCell ⟨D, 0, none⟩ v').drew D (l ++ [k]) v' := by
  obtain ⟨h1, h2, h3, h4⟩ := h
  have hDl := lt_of_block h1
  have hA : Below W.heap.size W (W.alloc ob) := (Below.refl _ _).alloc (Nat.le_refl _) _
  have h1A := (hA.block D hDl).trans h1
  have h1' := (hgr.block (lt_of_block h1A) h3).trans h1A
  have hn' := hgr.out h3 (lt_of_block h1A)
  refine ⟨cell_of_one h1', free_of_one h1', (heap_setCell_same w' D 0 _ 82 _ h1').trans rfl, ?_, hn', ?_⟩
  · have : TM (w'.setCell ⟨D, 0, none⟩ v') v' (l ++ [k]) := by
      unfold TM
      rw [List.length_append, tcs_append]
      exact Sq.of_blocks hown fun b hb => Below.heap_setCell _ _ _ _ (fun e => hn' (by simp at e; exact e ▸ hb))
    exact this
  · have c1 : Chg (vblk v) (vblk v') W w' := (Chg.of_below hA).trans hgr
    have c2 : Chg (D :: vblk v) (D :: vblk v') W w' := c1.cons D
    exact ((h4.trans c2).setCell D 0 v' (by simp)).drew
theorem growC {W w' : World} {v v' u : Value} {D : Nat} {a : Addr} {ob : Obj} (hgr : Chg (vblk v) (vblk v') (W.alloc ob) w') (hn : a.block ∉ vblk v) (hd : a.block ≠ D) (h : W.cell? a = some u) : w'.cell? a = some u ∧ (w'.setCell ⟨D, 0, none⟩ v').cell? a = some u := by
  have h1 := hgr.cell (cell_keep ((Below.refl _ W).alloc (Nat.le_refl _) ob) h) hn
  exact ⟨h1, ((Chg.refl [D] w').setCell D 0 v' (by simp)).cell h1 (by simp [hd])⟩
theorem RNodes_nil (r : Nat) (G : List Nat) (w : World) (h : Rt w r G []) : Calls Try.prog 18 #[.pointer (some ⟨r, 0, none⟩)] w fun e w' => e = .returned (.int .i64 0) ∧ Below w.heap.size w w' := by
  obtain ⟨ao, cap, c0, _⟩ := h.cells
  clear h
  go_enter Try.func18, Try.ntmps18
  go_wp2_with fail
  go_ret
  exact ⟨rfl, Below.refl _ _⟩
set_option maxRecDepth 100000 in
set_option maxHeartbeats 16000000 in
theorem RNodes_any (r : Nat) (G : List Nat) (L : List X) (w : World) (h : Rt w r G L) (hg : Good L) (hl : L ≠ []) : Calls Try.prog 18 #[.pointer (some ⟨r, 0, none⟩)] w fun e w' => ∃ o, Out L L.length 3 o ∧ e = .returned (.int .i64 ((o.length + 1 : Nat) : Int)) ∧ Below w.heap.size w w' := by
  obtain ⟨ao, cap, c0, _⟩ := h.cells
  have HR := Lib.hid (And.intro h (And.intro hg hl))
  have hlen : L.length ≤ 4096 := hg.length
  have hl0 : ¬ (L.length = 0) := fun e => hl (List.eq_nil_of_length_eq_zero e)
  have hlI : ¬ (((L.length : Nat) : Int) = 0) := by omega
  have hz := heap_alloc_new w (.cells #[.slice none 0 0] 82)
  have HI : RowKit.Hid (Xt w (w.alloc (.cells #[.slice none 0 0] 82)) w.heap.size [] (.slice none 0 0) ∧ Below w.heap.size w (w.alloc (.cells #[.slice none 0 0] 82))) := Lib.hid ⟨⟨hz, Sq.nil _ _ _, by simp [vblk_nil], by
    have hA : Below w.heap.size w (w.alloc (.cells #[.slice none 0 0] 82)) := (Below.refl _ _).alloc (Nat.le_refl _) _
    obtain ⟨a1, a2, a3, a4, a5, a6⟩ := Chg.of_below (F := []) hA
    exact ⟨a1, a2, a3, a4, a5, fun b hb => .inr (by simp [vblk_nil] at hb; omega)⟩⟩, (Below.refl _ _).alloc (Nat.le_refl _) _⟩
  clear h hg hl hz
  obtain ⟨i0, hi0, hz0, hz1, hz2⟩ := info_parts (show (Try.prog.info? 86).map (fun i => (i.zero, i.size, i.bytes)) = some (some (.agg #[.int .i64 0, .int .i64 0, .int .i64 0, .bool false, .bool false, .bool false, .bool false, .bool false, .bool false]), 9, 32) by kernel_rfl)
  go_enter Try.func18, Try.ntmps18
  go_upto_region 4 with fail
  clear c0
  generalize w.alloc (.cells #[.slice none 0 0] 82) = w1 at *
  generalize hD : w.heap.size = D at *
  have HD := Lib.hid hD
  clear hD
  have hLq : (((L.length : Nat) : Int) == 0) = false := by simp [hl0]
  go_wp2_with fail
  rw [hLq]
  clear hLq
  go_loopw [4] (fun s wr => ∃ (i : Nat), i ≤ L.length ∧ s = .int .i64 (i : Nat) ∧ RowKit.Hid (∃ vt, Xt w wr D (L.take i) vt)) (fun s _ => L.length - (intOf s).toNat)
  case atStart => exact ⟨0, Nat.zero_le _, rfl, Lib.hid ⟨_, HI.out.1⟩⟩
  case round =>
    obtain ⟨i, hi, rfl, HL⟩ := hrel
    obtain ⟨vt, hxt⟩ := HL.out
    obtain ⟨lo, hlo⟩ : ∃ lo, L.take i = lo := ⟨_, rfl⟩
    rw [hlo] at hxt
    have hll : lo.length = i := by rw [← hlo, List.length_take]; omega
    have hlob : lo.length ≤ 4096 := by omega
    have HLO := Lib.hid hlo
    clear hll
    have HX := Lib.hid hxt
    have hbr : Below w.heap.size w wr := hxt.2.2.2.below (fun b hb => by simp at hb) (Nat.le_refl _)
    have HRX := Lib.hid (HR.out.1.below hbr)
    have HBR := Lib.hid hbr
    obtain ⟨ao', cap', c0, hT, _⟩ := HRX.out.cells
    obtain ⟨ao0, cap0, rfl, hcp, hcm⟩ := Sq.slice hxt.2.1
    have d0 := cell_of_one hxt.1
    have df := free_of_one (j := 0) hxt.1
    clear hlo hbr
    by_cases hil : i < L.length
    · have hiI : ((i : Nat) : Int) < ((L.length : Nat) : Int) := by omega
      have hix0 : (0 : Int) ≤ ((i : Nat) : Int) := by omega
      obtain ⟨bl, cl2, hv', _, _, hbll, hcell, _⟩ := hT.read (ne_nil_of_lt hil)
      cases hv'
      have HNB := Lib.hid (show (bl ∉ vblk (.slice ao0 lo.length cap0) ∧ bl ≠ D) ∧ (r ∉ vblk (.slice ao0 lo.length cap0) ∧ r ≠ D) from by
        have h1 : ∀ b, b ∈ D :: vblk (.slice ao0 lo.length cap0) → D ≤ b := by
          have := hxt.2.2.2.2.2.2.2.2
          intro b hb
          rcases this b hb with h | h
          · simp at h
          · rw [HD.out] at h; exact h
        have h2 : ∀ b, b ∈ G → b < D := fun b hb => by rw [← HD.out]; exact HR.out.1.lt b hb
        obtain ⟨ao9, cap9, hc9, _, _, hG9, _⟩ := HRX.out.cells
        rw [c0] at hc9
        cases hc9
        have b1 : bl < D := h2 bl (by rw [hG9, vblk_some]; simp)
        have b2 : r < D := h2 r (by rw [hG9]; simp)
        exact ⟨⟨fun h => by have := h1 bl (by simp [h]); omega, by omega⟩, ⟨fun h => by have := h1 r (by simp [h]); omega, by omega⟩⟩)
      clear hbll
      have hk := List.getElem?_eq_getElem hil
      generalize L[i] = x at hk
      obtain ⟨e0, e1, _⟩ := hcell i x hk
      obtain ⟨ko, hko⟩ : ∃ ko, 3 * ((x.k : Nat) : Int) = ko := ⟨_, rfl⟩
      have htc : tcs [x] = [.int .i64 ((x.p : Nat) : Int), .int .i64 ko, .int .i64 0, .bool false, .bool false, .bool false, .bool false, .bool false, .bool false] := by rw [tcs_one, ← hko]; rfl
      rw [hko] at e1
      have HTK := Lib.hid (take_succ' L i x hk)
      have hA : Below wr.heap.size wr (wr.alloc (.cells #[.int .i64 ((x.p : Nat) : Int), .int .i64 ko, .int .i64 0, .bool false, .bool false, .bool false, .bool false, .bool false, .bool false] 86)) := (Below.refl _ _).alloc (Nat.le_refl _) _
      have hown : Sq (wr.alloc (.cells #[.int .i64 ((x.p : Nat) : Int), .int .i64 ko, .int .i64 0, .bool false, .bool false, .bool false, .bool false, .bool false, .bool false] 86)) 86 9 (.slice ao0 lo.length cap0) lo.length (tcs lo) := TM.below hxt.2.1 hA
      have hnew : ∀ j u, (tcs [x])[j]? = some u → (wr.alloc (.cells #[.int .i64 ((x.p : Nat) : Int), .int .i64 ko, .int .i64 0, .bool false, .bool false, .bool false, .bool false, .bool false, .bool false] 86)).cell? ((⟨wr.heap.size, 0, none⟩ : Addr).add j) = some u := by rw [htc]; exact news_alloc wr #[.int .i64 ((x.p : Nat) : Int), .int .i64 ko, .int .i64 0, .bool false, .bool false, .bool false, .bool false, .bool false, .bool false] 86
      have HGO := Lib.hid (fun vq wq (hownq : Sq wq 86 9 vq (lo.length + 1) (tcs lo ++ tcs [x])) (hgrq : Chg (vblk (.slice ao0 lo.length cap0)) (vblk vq) (wr.alloc (.cells #[.int .i64 ((x.p : Nat) : Int), .int .i64 ko, .int .i64 0, .bool false, .bool false, .bool false, .bool false, .bool false, .bool false] 86)) wq) => growX hownq hgrq hxt)
      have d0A := cell_keep hA d0
      clear hcell hT hk hxt hA hko
      go_upto_region 7 with fail
      have hbl0 : bl ∉ vblk (.slice ao0 lo.length cap0) ∧ bl ≠ D := HNB.out.1
      have hr0 : r ∉ vblk (.slice ao0 lo.length cap0) ∧ r ≠ D := HNB.out.2
      refine wp_region_noPanic ?_
      refine wp_region_held_drew (S := fun w' => w'.cell? ⟨r, 0, none⟩ = some (.slice (some ⟨bl, 0, none⟩) L.length cap') ∧ w'.cell? ⟨bl, i * 6, none⟩ = some (.int .i64 (x.p : Nat)) ∧ w'.cell? ⟨bl, i * 6 + 1, none⟩ = some (.int .i64 ko)) (by kernel_rfl) ?_ (fun hHeld => ?_)
      case refine_1 => exact ⟨c0, e0, e1⟩
      refine wpAnyH_take (i := 0) (v := ?_) rfl (by kernel_rfl) (by kernel_rfl) (by kernel_rfl) (fun _ _ _ h => h) (Or.inl ⟨by rfl, ?_⟩) (by assumption) ?_
      rotate_left 1
      focus
        intro w hSw
        (try dsimp only at hSw)
        go_simp
        try with_reducible rfl
      (try simp only [Act.put, List.setIfInBounds_toArray, List.set_cons_zero, List.set_cons_succ])
      refine wpAnyH_take (i := 2) (v := ?_) rfl (by kernel_rfl) (by kernel_rfl) (by kernel_rfl) (fun _ _ _ h => h) (Or.inl ⟨by rfl, ?_⟩) (by assumption) ?_
      rotate_left 1
      focus
        intro w hSw
        (try dsimp only at hSw)
        go_simp
        try with_reducible rfl
      (try simp only [Act.put, List.setIfInBounds_toArray, List.set_cons_zero, List.set_cons_succ])
      refine wpAnyH_take (i := 3) (v := ?_) rfl (by kernel_rfl) (by kernel_rfl) (by kernel_rfl) (fun _ _ _ h => h) (Or.inl ⟨by rfl, ?_⟩) (by assumption) ?_
      rotate_left 1
      focus
        intro w hSw
        (try dsimp only at hSw)
        go_simp
        try with_reducible rfl
      (try simp only [Act.put, List.setIfInBounds_toArray, List.set_cons_zero, List.set_cons_succ])
      refine wpAnyH_take (i := 4) (v := ?_) rfl (by kernel_rfl) (by kernel_rfl) (by kernel_rfl) (fun _ _ _ h => h) (Or.inl ⟨by rfl, ?_⟩) (by assumption) ?_
      rotate_left 1
      focus
        intro w hSw
        (try dsimp only at hSw)
        go_simp
        try with_reducible rfl
      (try simp only [Act.put, List.setIfInBounds_toArray, List.set_cons_zero, List.set_cons_succ])
      refine wpAnyH_take (i := 5) (v := ?_) rfl (by kernel_rfl) (by kernel_rfl) (by kernel_rfl) (fun _ _ _ h => h) (Or.inl ⟨by rfl, ?_⟩) (by assumption) ?_
      rotate_left 1
      focus
        intro w hSw
        (try dsimp only at hSw)
        go_simp
        try with_reducible rfl
      (try simp only [Act.put, List.setIfInBounds_toArray, List.set_cons_zero, List.set_cons_succ])
      refine wpAnyH_take (i := 6) (v := ?_) rfl (by kernel_rfl) (by kernel_rfl) (by kernel_rfl) (fun _ _ _ h => h) (Or.inl ⟨by rfl, ?_⟩) (by assumption) ?_
      rotate_left 1
      focus
        intro w hSw
        (try dsimp only at hSw)
        go_simp
        try with_reducible rfl
      (try simp only [Act.put, List.setIfInBounds_toArray, List.set_cons_zero, List.set_cons_succ])
      refine wpAnyH_take (i := 7) (v := ?_) rfl (by kernel_rfl) (by kernel_rfl) (by kernel_rfl) (fun _ _ _ h => h) (Or.inl ⟨by rfl, ?_⟩) (by assumption) ?_
      rotate_left 1
      focus
        intro w hSw
        (try dsimp only at hSw)
        go_simp
        try with_reducible rfl
      (try simp only [Act.put, List.setIfInBounds_toArray, List.set_cons_zero, List.set_cons_succ])
      refine wpAnyH_take (i := 8) (v := ?_) rfl (by kernel_rfl) (by kernel_rfl) (by kernel_rfl) (fun _ _ _ h => h) (Or.inl ⟨by rfl, ?_⟩) (by assumption) ?_
      rotate_left 1
      focus
        intro w hSw
        (try dsimp only at hSw)
        go_simp
        try with_reducible rfl
      (try simp only [Act.put, List.setIfInBounds_toArray, List.set_cons_zero, List.set_cons_succ])
      refine wpAnyH_take (i := 9) (v := ?_) rfl (by kernel_rfl) (by kernel_rfl) (by kernel_rfl) (fun _ _ _ h => h) (Or.inl ⟨by rfl, ?_⟩) (by assumption) ?_
      rotate_left 1
      focus
        intro w hSw
        (try dsimp only at hSw)
        go_simp
        try with_reducible rfl
      (try simp only [Act.put, List.setIfInBounds_toArray, List.set_cons_zero, List.set_cons_succ])
      refine wpAnyH_take (i := 10) (v := ?_) rfl (by kernel_rfl) (by kernel_rfl) (by kernel_rfl) (fun _ _ _ h => h) (Or.inl ⟨by rfl, ?_⟩) (by assumption) ?_
      rotate_left 1
      focus
        intro w hSw
        (try dsimp only at hSw)
        go_simp
        try with_reducible rfl
      (try simp only [Act.put, List.setIfInBounds_toArray, List.set_cons_zero, List.set_cons_succ])
      refine wpAnyH_take (i := 11) (v := ?_) rfl (by kernel_rfl) (by kernel_rfl) (by kernel_rfl) (fun _ _ _ h => h) (Or.inl ⟨by rfl, ?_⟩) (by assumption) ?_
      rotate_left 1
      focus
        intro w hSw
        (try dsimp only at hSw)
        go_simp
        try with_reducible rfl
      (try simp only [Act.put, List.setIfInBounds_toArray, List.set_cons_zero, List.set_cons_succ])
      refine wpAnyH_take (i := 12) (v := ?_) rfl (by kernel_rfl) (by kernel_rfl) (by kernel_rfl) (fun _ _ _ h => h) (Or.inl ⟨by rfl, ?_⟩) (by assumption) ?_
      rotate_left 1
      focus
        intro w hSw
        (try dsimp only at hSw)
        go_simp
        try with_reducible rfl
      (try simp only [Act.put, List.setIfInBounds_toArray, List.set_cons_zero, List.set_cons_succ])
      refine wpAnyH_take (i := 13) (v := ?_) rfl (by kernel_rfl) (by kernel_rfl) (by kernel_rfl) (fun _ _ _ h => h) (Or.inl ⟨by rfl, ?_⟩) (by assumption) ?_
      rotate_left 1
      focus
        intro w hSw
        (try dsimp only at hSw)
        go_simp
        try with_reducible rfl
      (try simp only [Act.put, List.setIfInBounds_toArray, List.set_cons_zero, List.set_cons_succ])
      refine wpAnyH_take (i := 14) (v := ?_) rfl (by kernel_rfl) (by kernel_rfl) (by kernel_rfl) (fun _ _ _ h => h) (Or.inl ⟨by rfl, ?_⟩) (by assumption) ?_
      rotate_left 1
      focus
        intro w hSw
        (try dsimp only at hSw)
        go_simp
        try with_reducible rfl
      (try simp only [Act.put, List.setIfInBounds_toArray, List.set_cons_zero, List.set_cons_succ])
      refine wpAnyH_take (i := 15) (v := ?_) rfl (by kernel_rfl) (by kernel_rfl) (by kernel_rfl) (fun _ _ _ h => h) (Or.inl ⟨by rfl, ?_⟩) (by assumption) ?_
      rotate_left 1
      focus
        intro w hSw
        (try dsimp only at hSw)
        go_simp
        try with_reducible rfl
      (try simp only [Act.put, List.setIfInBounds_toArray, List.set_cons_zero, List.set_cons_succ])
      refine wpAnyH_take (i := 16) (v := ?_) rfl (by kernel_rfl) (by kernel_rfl) (by kernel_rfl) (fun _ _ _ h => h) (Or.inl ⟨by rfl, ?_⟩) (by assumption) ?_
      rotate_left 1
      focus
        intro w hSw
        (try dsimp only at hSw)
        go_simp
        try with_reducible rfl
      (try simp only [Act.put, List.setIfInBounds_toArray, List.set_cons_zero, List.set_cons_succ])
      refine wpAnyH_take (i := 17) (v := ?_) rfl (by kernel_rfl) (by kernel_rfl) (by kernel_rfl) (fun _ _ _ h => h) (Or.inl ⟨by rfl, ?_⟩) (by assumption) ?_
      rotate_left 1
      focus
        intro w hSw
        (try dsimp only at hSw)
        go_simp
        try with_reducible rfl
      (try simp only [Act.put, List.setIfInBounds_toArray, List.set_cons_zero, List.set_cons_succ])
      refine wpAnyH_take (i := 18) (v := ?_) rfl (by kernel_rfl) (by kernel_rfl) (by kernel_rfl) (fun _ _ _ h => h) (Or.inl ⟨by rfl, ?_⟩) (by assumption) ?_
      rotate_left 1
      focus
        intro w hSw
        (try dsimp only at hSw)
        go_simp
        try with_reducible rfl
      (try simp only [Act.put, List.setIfInBounds_toArray, List.set_cons_zero, List.set_cons_succ])
      refine wpAnyH_ready (rs := [1, 19]) (by kernel_rfl) (by simp) ?_
      refine AllReadyH.cons (o := _) rfl (fun K hK => ?_) ?_
      · go_simp
        refine hK.out _ _ ?_ (fun hHeld => ?_)
        case refine_1 => exact ⟨c0, e0, e1⟩
        clear hK K
        (try simp only [Act.put, List.setIfInBounds_toArray, List.set_cons_zero, List.set_cons_succ])
        refine wpAnyH_ready (rs := [19]) (by kernel_rfl) (by simp) ?_
        refine AllReadyH.cons (o := _) rfl (fun K hK => ?_) ?_
        · go_simp
          refine hK.out _ _ ?_ (fun hHeld => ?_)
          case refine_1 => exact ⟨cell_alloc c0 _, cell_alloc e0 _, cell_alloc e1 _⟩
          clear hK K
          (try simp only [Act.put, List.setIfInBounds_toArray, List.set_cons_zero, List.set_cons_succ])
          refine wpAnyH_ready (rs := [20]) (by kernel_rfl) (by simp) ?_
          refine AllReadyH.cons (o := _) rfl (fun K hK => ?_) ?_
          · refine step_append_any _ rfl (.tmp 22) (.tmp 40) 80 rfl 86 i0 (.agg #[.int .i64 0, .int .i64 0, .int .i64 0, .bool false, .bool false, .bool false, .bool false, .bool false, .bool false]) 9 32 Try.underlying80 hi0 hz0 hz1 hz2 rfl (by decide) (.slice ao0 lo.length cap0) lo.length (tcs lo) rfl hown (some ⟨wr.heap.size, 0, none⟩) 1 1 (tcs [x]) rfl (fun h => by cases h) rfl (fun a ha => by cases ha; exact hnew) (tcs_onecell _) (by unfold maxLen; omega) (by omega) ?_; intro vq wq hownq hgrq; obtain ⟨d1, d2, HXQ0⟩ := HGO.out vq wq hownq hgrq; have g0 := growC hgrq hr0.1 hr0.2 c0; have g1 := growC hgrq hbl0.1 hbl0.2 e0; have g2 := growC hgrq hbl0.1 hbl0.2 e1; obtain ⟨aoq, capq, rfl, _, _⟩ := Sq.slice hownq; have HXQ := Lib.hid HXQ0; clear hownq hgrq HXQ0
            refine hK.out _ _ ?_ (fun hHeld => ?_)
            case refine_1 => exact ⟨g0.1, g1.1, g2.1⟩
            clear hK K
            (try simp only [Act.put, List.setIfInBounds_toArray, List.set_cons_zero, List.set_cons_succ])
            refine wpAnyH_take (i := 21) (v := ?_) rfl (by kernel_rfl) (by kernel_rfl) (by kernel_rfl) (fun _ _ _ h => h) (Or.inl ⟨by rfl, ?_⟩) (by assumption) ?_
            rotate_left 1
            focus
              intro w hSw
              (try dsimp only at hSw)
              go_simp
              try with_reducible rfl
            (try simp only [Act.put, List.setIfInBounds_toArray, List.set_cons_zero, List.set_cons_succ])
            refine wpAnyH_ready (rs := [22]) (by kernel_rfl) (by simp) ?_
            refine AllReadyH.cons (o := _) rfl (fun K hK => ?_) ?_
            · go_simp
              refine hK.out _ _ ?_ (fun hHeld => ?_)
              case refine_1 => exact ⟨g0.2, g1.2, g2.2⟩
              clear hK K
              (try simp only [Act.put, List.setIfInBounds_toArray, List.set_cons_zero, List.set_cons_succ])
              refine wpAnyH_done (by kernel_rfl) ?_ _
              refine NoPanic.normal ?_
              clear d1 d2 g0 g1 g2 hbl0 hr0
              go_wp2_with fail
              exact ⟨⟨i + 1, hil, by simp, Lib.hid ⟨_, by rw [HTK.out, HLO.out]; exact HXQ.out⟩⟩, by simp [intOf]; omega⟩
            · exact AllReadyH.nil
          · exact AllReadyH.nil
        · exact AllReadyH.nil
      · refine AllReadyH.cons (o := _) rfl (fun K hK => ?_) ?_
        · go_simp
          refine hK.out _ _ ?_ (fun hHeld => ?_)
          case refine_1 => exact ⟨cell_alloc c0 _, cell_alloc e0 _, cell_alloc e1 _⟩
          clear hK K
          (try simp only [Act.put, List.setIfInBounds_toArray, List.set_cons_zero, List.set_cons_succ])
          refine wpAnyH_ready (rs := [1]) (by kernel_rfl) (by simp) ?_
          refine AllReadyH.cons (o := _) rfl (fun K hK => ?_) ?_
          · go_simp
            refine hK.out _ _ ?_ (fun hHeld => ?_)
            case refine_1 => exact ⟨cell_alloc c0 _, cell_alloc e0 _, cell_alloc e1 _⟩
            clear hK K
            (try simp only [Act.put, List.setIfInBounds_toArray, List.set_cons_zero, List.set_cons_succ])
            refine wpAnyH_ready (rs := [20]) (by kernel_rfl) (by simp) ?_
            refine AllReadyH.cons (o := _) rfl (fun K hK => ?_) ?_
            · refine step_append_any _ rfl (.tmp 22) (.tmp 40) 80 rfl 86 i0 (.agg #[.int .i64 0, .int .i64 0, .int .i64 0, .bool false, .bool false, .bool false, .bool false, .bool false, .bool false]) 9 32 Try.underlying80 hi0 hz0 hz1 hz2 rfl (by decide) (.slice ao0 lo.length cap0) lo.length (tcs lo) rfl hown (some ⟨wr.heap.size, 0, none⟩) 1 1 (tcs [x]) rfl (fun h => by cases h) rfl (fun a ha => by cases ha; exact hnew) (tcs_onecell _) (by unfold maxLen; omega) (by omega) ?_; intro vq wq hownq hgrq; obtain ⟨d1, d2, HXQ0⟩ := HGO.out vq wq hownq hgrq; have g0 := growC hgrq hr0.1 hr0.2 c0; have g1 := growC hgrq hbl0.1 hbl0.2 e0; have g2 := growC hgrq hbl0.1 hbl0.2 e1; obtain ⟨aoq, capq, rfl, _, _⟩ := Sq.slice hownq; have HXQ := Lib.hid HXQ0; clear hownq hgrq HXQ0
              refine hK.out _ _ ?_ (fun hHeld => ?_)
              case refine_1 => exact ⟨g0.1, g1.1, g2.1⟩
              clear hK K
              (try simp only [Act.put, List.setIfInBounds_toArray, List.set_cons_zero, List.set_cons_succ])
              refine wpAnyH_take (i := 21) (v := ?_) rfl (by kernel_rfl) (by kernel_rfl) (by kernel_rfl) (fun _ _ _ h => h) (Or.inl ⟨by rfl, ?_⟩) (by assumption) ?_
              rotate_left 1
              focus
                intro w hSw
                (try dsimp only at hSw)
                go_simp
                try with_reducible rfl
              (try simp only [Act.put, List.setIfInBounds_toArray, List.set_cons_zero, List.set_cons_succ])
              refine wpAnyH_ready (rs := [22]) (by kernel_rfl) (by simp) ?_
              refine AllReadyH.cons (o := _) rfl (fun K hK => ?_) ?_
              · go_simp
                refine hK.out _ _ ?_ (fun hHeld => ?_)
                case refine_1 => exact ⟨g0.2, g1.2, g2.2⟩
                clear hK K
                (try simp only [Act.put, List.setIfInBounds_toArray, List.set_cons_zero, List.set_cons_succ])
                refine wpAnyH_done (by kernel_rfl) ?_ _
                refine NoPanic.normal ?_
                clear d1 d2 g0 g1 g2 hbl0 hr0
                go_wp2_with fail
                exact ⟨⟨i + 1, hil, by simp, Lib.hid ⟨_, by rw [HTK.out, HLO.out]; exact HXQ.out⟩⟩, by simp [intOf]; omega⟩
              · exact AllReadyH.nil
            · exact AllReadyH.nil
          · exact AllReadyH.nil
        · exact AllReadyH.nil
    · obtain rfl : i = L.length := by omega
      have hLL : lo = L := by rw [← HLO.out, List.take_length]
      subst hLL
      have HC := Lib.hid (count_any D ao0 cap0 lo wr d0 hxt.2.1 HR.out.2.1)
      clear hxt hT
      go_wp2_with fail
      refine HC.out.mono ?_
      rintro e w5 ⟨o, ho, rfl, hb⟩
      have HO := Lib.hid (And.intro ho hb)
      clear ho hb
      go_wp2_with fail
      go_ret
      exact ⟨o, HO.out.1, rfl, HBR.out.trans (HO.out.2.mono HBR.out.size)⟩

end Go.Proofs.Ytdnnfoojdfmajaa
