/- Parts of the proofs of layer 6 (pick): contracts of its functions, and the laws' walks. -/
import Derived.Test.YtekkblhghbkdiaaProg
import Derived.WalkKit
import Derived.WalkSpells
import Derived.WalkLawsBesides
import Derived.BigQuiet
import Derived.Deep.QuietTactic
import Derived.Lib.Hide
import Derived.Deep.RegionHeld3
import Derived.Deep.DeepCutAuto
import Derived.KernelRfl
import Derived.Deep.OwnRows
import Derived.Laws.CopyOwn
import Derived.Laws.CopyRow
import Derived.StillTailTactics
import Derived.Deep.RegionLaw
import Derived.Test.YtekkblhghbkdiaaP14
import Derived.OwnWalk
namespace Go.Proofs.Ytekkblhghbkdiaa
open Go.RowKit
set_option linter.unusedVariables false
set_option linter.unusedSimpArgs false

theorem grow {w0 W w' : World} {e : TypeId} {v v' : Value} {D : List E} {k : E} {ob : Obj} (hown : Sq w' e 2 v' (D.length + 1) (rc D ++ rc [k])) (hgr : Chg (vblk v) (vblk v') (W.alloc ob) w') (hc : Chg [] (vblk v) w0 W) :
    Told e w' v' (D ++ [k]) ∧ Chg [] (vblk v') w0 w' := ⟨Told.one_more hown, (hc.trans (Chg.of_below ((Below.refl _ _).alloc (Nat.le_refl _) _))).trans hgr⟩
/-- The reference's frames: its struct in block g, its row. -/
def Rt (w : World) (g : Nat) (F : List Nat) (L : List E) : Prop := ∃ v, w.heap[g]? = some (.cells #[v] 28 (0, 0)) ∧ Told 41 w v L ∧ F = g :: vblk v ∧ g ∉ vblk v
theorem Rt.lt {w : World} {g : Nat} {F : List Nat} {L : List E} (h : Rt w g F L) : ∀ b, b ∈ F → b < w.heap.size := by
  obtain ⟨v, hg, ht, rfl, h1⟩ := h
  intro b hb
  rcases List.mem_cons.1 hb with rfl | hb
  · exact lt_of_block hg
  · exact ht.lt b hb
theorem Rt.chg {w w' : World} {g : Nat} {F G G' : List Nat} {L : List E} (h : Rt w g F L) (hc : Chg G G' w w') (hs : Sep F G) : Rt w' g F L := by
  have hl := h.lt
  obtain ⟨v, hg, ht, rfl, h1⟩ := h
  exact ⟨v, (hc.block (hl g (by simp)) (hs g (by simp))).trans hg, ht.chg hc fun b hb => hs b (by simp [hb]), rfl, h1⟩
theorem Rt.below {w w' : World} {g : Nat} {F : List Nat} {L : List E} (h : Rt w g F L) (hb : Below w.heap.size w w') : Rt w' g F L := h.chg (Chg.of_below (F := []) hb) fun _ _ hm => by simp at hm
theorem Rt.drew {w : World} {g : Nat} {F : List Nat} {L : List E} (h : Rt w g F L) : Rt w.drew g F L := h
theorem Rt.drewN {w : World} {g : Nat} {F : List Nat} {L : List E} (h : Rt w g F L) (k : Nat) : Rt (w.drewN k) g F L := h
theorem Rt.cells {w : World} {g : Nat} {F : List Nat} {L : List E} (h : Rt w g F L) : ∃ ao cap, w.cell? ⟨g, 0, none⟩ = some (.slice ao L.length cap) ∧ Told 41 w (.slice ao L.length cap) L ∧ g ∉ vblk (.slice ao L.length cap) ∧ F = g :: vblk (.slice ao L.length cap) ∧ w.heap[g]? = some (.cells #[.slice ao L.length cap] 28 (0, 0)) := by
  obtain ⟨v, hg, ht, rfl, h1⟩ := h
  obtain ⟨ao, cap, rfl, _, _⟩ := ht.slice
  exact ⟨ao, cap, cell_of_one hg, ht, h1, rfl, hg⟩
/-- The reference takes a new row. -/
theorem Rt.set {w w3 : World} {g : Nat} {F : List Nat} {L L' : List E} {v' : Value} (h : Rt w g F L) (hc : Chg [] (vblk v') w w3) (ht : Told 41 w3 v' L') :
    Rt (w3.setCell ⟨g, 0, none⟩ v') g (g :: vblk v') L' ∧ Chg F (g :: vblk v') w (w3.setCell ⟨g, 0, none⟩ v') ∧ w3.cell? ⟨g, 0, none⟩ = w.cell? ⟨g, 0, none⟩ ∧ w3.frozen? ⟨g, 0, none⟩ = false := by
  obtain ⟨v, hg, h0, rfl, h1⟩ := h
  have gl := lt_of_block hg
  have r3 := (hc.block gl (by simp)).trans hg
  have n3 := hc.out (by simp) gl
  refine ⟨⟨v', (heap_setCell_same w3 g 0 _ 28 _ r3).trans rfl, ht.set_other n3 _ _, rfl, n3⟩, ?_, ?_, free_of_one r3⟩
  · exact (hc.frame (F := g :: vblk v) (F' := g :: vblk v') (by grind) (by grind)).setCell _ _ _ (by simp)
  · rw [cell_of_one r3, cell_of_one hg]
set_option maxHeartbeats 2000000 in
theorem RAt_any (f : Int) (g : Nat) (F : List Nat) (L : List E) (w : World) (h : Rt w g F L) (hm : L.length ≤ 3000) :
    Calls Try.prog 16 #[.pointer (some ⟨g, 0, none⟩), .int .i64 f] w fun e w' => w = w' ∧ (((∀ e ∈ L, e.f ≠ f) ∧ e = .returned (.int .i64 (-1))) ∨ ∃ i : Nat, ∃ x : E, L[i]? = some x ∧ x.f = f ∧ e = .returned (.int .i64 (i : Nat))) := by
  obtain ⟨al, cl, c0, hT, _⟩ := h.cells
  have HT := Lib.hid hT
  clear h hT
  go_enter Try.func16, Try.ntmps16
  go_wp2_with fail
  go_loopw [5] (fun s wr => ∃ (i : Nat), i ≤ L.length ∧ s = .int .i64 (i : Nat) ∧ wr = w ∧ RowKit.Hid (∀ e ∈ L.take i, e.f ≠ f)) (fun s _ => L.length - (intOf s).toNat)
  case atStart => exact ⟨0, Nat.zero_le _, rfl, rfl, Lib.hid fun e he => by simp at he⟩
  case round =>
    obtain ⟨i, hi, rfl, rfl, HL⟩ := hrel
    by_cases hil : i < L.length
    · obtain ⟨bl, cl2, hv, _, _, hbl, hcell, _⟩ := HT.out.read (ne_nil_of_lt hil)
      cases hv
      have hk := List.getElem?_eq_getElem hil
      generalize L[i] = k at hk
      obtain ⟨e0, e1⟩ := hcell i _ hk
      have hiI : ((i : Nat) : Int) < ((L.length : Nat) : Int) := by omega
      have HTK := Lib.hid (And.intro (take_succ' L i _ hk) hk)
      clear hcell hk hbl e1
      by_cases m1 : k.f = f
      · go_wp2_with fail
        go_ret
        exact ⟨rfl, .inr ⟨i, k, HTK.out.2, m1, rfl⟩⟩
      · go_wp2_with fail
        refine ⟨⟨i + 1, hil, by simp, (by first | rfl | trivial), Lib.hid fun e he => ?_⟩, by simp [intOf]; omega⟩
        rw [HTK.out.1] at he
        rcases List.mem_append.1 he with he | he
        · exact HL.out e he
        · simp at he; subst he; exact m1
    · have hil2 : i = L.length := by omega
      have hno := HL.out
      rw [hil2, List.take_length] at hno
      have HN := Lib.hid hno
      clear hno
      go_wp2_with fail
      go_ret
      exact ⟨rfl, .inl ⟨HN.out, rfl⟩⟩
theorem wo_append (f : Int) (L M : List E) : wo f (L ++ M) = wo f L ++ wo f M := List.filter_append ..
theorem wo_one (f : Int) (k : E) : wo f [k] = if k.f = f then [] else [k] := by
  unfold wo
  rw [List.filter_cons]
  by_cases h : k.f = f
  · rw [if_neg (by simp [h]), if_pos h]; rfl
  · rw [if_pos (by simp [h]), if_neg h]; rfl
set_option maxHeartbeats 4000000 in
theorem RDrop_any (f : Int) (g : Nat) (F : List Nat) (L : List E) (w : World) (h : Rt w g F L) (hm : L.length ≤ 3000) :
    Calls Try.prog 15 #[.pointer (some ⟨g, 0, none⟩), .int .i64 f] w fun e w' => ∃ F', Chg F F' w w' ∧ Rt w' g F' (wo f L) ∧ (((∀ e ∈ L, e.f ≠ f) ∧ e = .returned (.int .i64 6)) ∨ ((∃ x ∈ L, x.f = f) ∧ e = .returned (.int .i64 0))) := by
  have HM := Lib.hid h
  have HA := Lib.hid (RAt_any f g F L w h hm)
  clear h
  obtain ⟨i0, hi0, hz0, hz1, hz2⟩ := info_parts (show (Try.prog.info? 41).map (fun i => (i.zero, i.size, i.bytes)) = some (some (.agg #[.int .i64 0, .int .i64 0]), 2, 16) by kernel_rfl)
  go_enter Try.func15, Try.ntmps15
  go_wp2_with fail
  refine HA.out.mono ?_
  rintro e w1 ⟨rfl, he⟩
  rcases he with ⟨hn, rfl⟩ | ⟨i0', x, hx, hxf, rfl⟩
  · have HN := Lib.hid hn
    clear hn
    go_wp2_with fail
    go_ret
    exact ⟨F, Chg.refl _ _, by rw [wo_self HN.out]; exact HM.out, .inl ⟨HN.out, rfl⟩⟩
  · have HX := Lib.hid (show ∃ x ∈ L, x.f = f from ⟨x, List.mem_of_getElem? hx, hxf⟩)
    clear hx hxf
    go_wp2_with fail
    go_loopw [5, 6] (fun o s wr => ∃ (i : Nat) (lo : List E), i ≤ L.length ∧ s = .int .i64 (i : Nat) ∧ lo.length ≤ i ∧ RowKit.Hid (lo = wo f (L.take i) ∧ Told 41 wr o lo ∧ Chg [] (vblk o) w wr)) (fun _ s _ => L.length - (intOf s).toNat)
    case atStart => exact ⟨0, [], Nat.zero_le _, rfl, Nat.zero_le _, Lib.hid ⟨rfl, Sq.nil _ _ _, by rw [vblk_nil]; exact Chg.refl _ _⟩⟩
    case round =>
      obtain ⟨i, lo, hi, rfl, hlo, HL⟩ := hrel
      have hbr : Below w.heap.size w wr := HL.out.2.2.below (fun b hb => by simp at hb) (Nat.le_refl _)
      obtain ⟨al', cl', c0w, hT', _⟩ := HM.out.cells
      have c0 := cell_keep hbr c0w
      obtain ⟨ao, cap, rfl, _, _⟩ := HL.out.2.1.slice
      by_cases hil : i < L.length
      · obtain ⟨bl, cl2, hv, _, _, hbl, hcell, _⟩ := (hT'.below hbr).read (ne_nil_of_lt hil)
        cases hv
        have hk := List.getElem?_eq_getElem hil
        generalize L[i] = k at hk
        obtain ⟨e0, e1⟩ := hcell i _ hk
        have hiI : ((i : Nat) : Int) < ((L.length : Nat) : Int) := by omega
        have HTK := Lib.hid (take_succ' L i _ hk)
        have HDK := Lib.hid (wo_one f k)
        clear hcell hk hbl hbr c0w hT'
        by_cases m1 : k.f = f
        · rw [if_pos m1] at HDK
          go_wp2_with fail
          exact ⟨⟨i + 1, lo, hil, by simp, by omega, Lib.hid ⟨by rw [HTK.out, wo_append, ← HL.out.1, HDK.out, List.append_nil], HL.out.2.1, HL.out.2.2⟩⟩, by simp [intOf]; omega⟩
        · rw [if_neg m1] at HDK
          have hA : Below wr.heap.size wr (wr.alloc (.cells #[.int .i64 k.f, .int .i64 k.w] 41)) := (Below.refl _ _).alloc (Nat.le_refl _) _
          have hown := Told.below HL.out.2.1 hA
          have hnew := news_alloc wr #[.int .i64 k.f, .int .i64 k.w] 41
          go_wp2_with (at_builtin; refine wpList_append_any _ rfl (.tmp 30) (.tmp 38) 26 rfl 41 i0 (.agg #[.int .i64 0, .int .i64 0]) 2 16 Try.underlying26 hi0 hz0 hz1 hz2 rfl (by decide) (.slice ao lo.length cap) lo.length (rc lo) rfl hown (some ⟨wr.heap.size, 0, none⟩) 1 1 (rc [k]) rfl (fun h => by cases h) rfl (fun a ha => by cases ha; rw [rc_one]; exact hnew) (rc_onecell _) (by unfold maxLen; omega) (by omega) ?_; intro v7 w7 hown7 hgr7; obtain ⟨ao7, cap7, rfl, _, _⟩ := Sq.slice hown7)
          have HG := Lib.hid (grow hown7 hgr7 HL.out.2.2)
          exact ⟨⟨i + 1, lo ++ [k], hil, by simp, by simp; omega, Lib.hid ⟨by rw [HTK.out, wo_append, ← HL.out.1, HDK.out], HG.out.1, HG.out.2⟩⟩, by simp [intOf]; omega⟩
      · have hil2 : i = L.length := by omega
        have hlo2 := HL.out.1
        rw [hil2, List.take_length] at hlo2
        obtain ⟨t1, t2, t3, t4⟩ := HM.out.set HL.out.2.2 HL.out.2.1
        rw [c0w] at t3
        have HS := Lib.hid (And.intro t1 t2)
        have HR1 := Lib.hid hlo2
        clear t1 t2 hlo2 c0 c0w hbr hT'
        go_wp2_with fail
        go_ret
        exact ⟨_, HS.out.2, by rw [← HR1.out]; exact HS.out.1, .inr ⟨HX.out, rfl⟩⟩

end Go.Proofs.Ytekkblhghbkdiaa
