/- Parts of the proofs of layer 19 (radix): contracts of its functions, and the laws' walks. -/
import Derived.Test.YtdnnfoojdfmajaaProg
import Derived.WalkKit
import Derived.WalkSpells
import Derived.WalkLawsBesides
import Derived.BigQuiet
import Derived.Deep.QuietTactic
import Derived.Lib.Hide
import Derived.Deep.RegionHeld3
import Derived.Deep.DeepCutAuto
import Derived.KernelRfl
import Derived.Deep.OwnRows
import Derived.Laws.CopyOwn
import Derived.Laws.CopyRow
import Derived.StillTailTactics
import Derived.Deep.RegionLaw
import Derived.Handy
import Derived.Deep.CutRange
import Derived.Deep.CutBlock
import Derived.Test.YtdnnfoojdfmajaaX3
namespace Go.Proofs.Ytdnnfoojdfmajaa
open Go.RowKit
set_option linter.unusedVariables false
set_option linter.unusedSimpArgs false

theorem Chg.frame {F F' G G' : List Nat} {w w' : World} (h : Chg G G' w w') (hF : ∀ b, b ∈ G → b ∈ F) (hF' : ∀ b, b ∈ F' → b ∈ G' ∨ b ∈ F) : Chg F F' w w' := by
  obtain ⟨h1, h2, h3, h4, h5, h6⟩ := h
  refine ⟨h1, h2, h3, h4, fun b hb hm => h5 b hb fun hg => hm (hF b hg), fun b hb => ?_⟩
  rcases hF' b hb with h | h
  · exact (h6 b h).imp (hF b) id
  · exact .inl h
theorem Chg.out {F F' : List Nat} {w w' : World} {g : Nat} (h : Chg F F' w w') (hf : g ∉ F) (hg : g < w.heap.size) : g ∉ F' := fun hm => by
  rcases h.2.2.2.2.2 g hm with h | h
  · exact hf h
  · omega
theorem below_undrew {B : Nat} {w w' : World} (h : Below B w.drew w') : Below B w w' := ⟨h.os, h.tape, h.output, h.size, h.block⟩
theorem below_drewN {B : Nat} {w w' : World} (h : Below B w w') (k : Nat) : Below B w (w'.drewN k) := ⟨h.os, h.tape, h.output, h.size, h.block⟩
theorem news_alloc (w : World) (cs : Array Value) (e : TypeId) : ∀ j u, cs.toList[j]? = some u → (w.alloc (.cells cs e)).cell? ((⟨w.heap.size, 0, none⟩ : Addr).add j) = some u := by
  intro j u hj
  rw [Addr.add_lit, Nat.zero_add]
  simp only [World.cell?, Deep.blk_alloc_new]
  simpa using hj
theorem info_parts {o : Option TypeInfo} {z : Option Value} {s b : Nat} (h : o.map (fun i => (i.zero, i.size, i.bytes)) = some (z, s, b)) : ∃ i, o = some i ∧ i.zero = z ∧ i.size = s ∧ i.bytes = b := by
  cases o with
  | none => simp at h
  | some i =>
    simp only [Option.map_some, Option.some.injEq, Prod.mk.injEq] at h
    exact ⟨i, rfl, h.1, h.2.1, h.2.2⟩
/-- Nodes in a row. -/
def pl (l : List Nat) : List Value := l.map fun b => pt (some b)
theorem pl_onecell (l : List Nat) : ∀ u ∈ pl l, u.oneCell' = true := fun u hu => by
  obtain ⟨b, _, rfl⟩ := List.mem_map.1 hu
  rfl
/-- The nodes down to a page, above the level j. -/
def Pth (σ : St) (g j : Nat) (l : List Nat) : Prop := l.length + j = 3 ∧ ∀ i, i < l.length → σ.N (3 - i) (g / 8 ^ (4 - i)) = l[i]?
theorem Pth.more {σ : St} {g j b : Nat} {l : List Nat} (h : Pth σ g (j + 1) l) (hb : σ.N (j + 1) (g / 8 ^ (j + 2)) = some b) : Pth σ g j (l ++ [b]) := by
  obtain ⟨h1, h2⟩ := h
  refine ⟨by simp; omega, fun i hi => ?_⟩
  simp at hi
  by_cases hil : i < l.length
  · rw [List.getElem?_append_left hil]; exact h2 i hil
  · have : i = l.length := by omega
    subst this
    rw [show 3 - l.length = j + 1 from by omega, show 4 - l.length = j + 2 from by omega, hb]
    simp
theorem Pth.last {σ : St} {g j b : Nat} {l : List Nat} (h : Pth σ g j l) (hb : σ.N j (g / 8 ^ (j + 1)) = some b) : ∀ i, i < (l ++ [b]).length → σ.N (3 - i) (g / 8 ^ (4 - i)) = (l ++ [b])[i]? := by
  obtain ⟨h1, h2⟩ := h
  intro i hi
  simp at hi
  by_cases hil : i < l.length
  · rw [List.getElem?_append_left hil]; exact h2 i hil
  · have : i = l.length := by omega
    subst this
    rw [show 3 - l.length = j from by omega, show 4 - l.length = j + 1 from by omega, hb]
    simp
theorem Sq_pl {w : World} {v : Value} {l : List Nat} {b : Nat} (h : Sq w 61 1 v (l.length + 1) (pl l ++ pl [b])) (n : Nat) : Sq (w.drewN n) 61 1 v (l ++ [b]).length (pl (l ++ [b])) := by
  have e : pl (l ++ [b]) = pl l ++ pl [b] := by unfold pl; rw [List.map_append]
  rw [e, List.length_append]
  exact h
theorem bel_eq {g k : Nat} : 8 * (g / 8 ^ (k + 1)) + g / 8 ^ k % 8 = g / 8 ^ k := by
  rw [Nat.pow_succ, ← Nat.div_div_eq_div_mul]
  omega
theorem one_cell {w : World} {v : Value} {l : List Nat} (h : Sq w 61 1 v l.length (pl l)) {i b : Nat} (hi : l[i]? = some b) : ∃ vb cap, v = .slice (some ⟨vb, 0, none⟩) l.length cap ∧ w.cell? ⟨vb, i, none⟩ = some (.pointer (some ⟨b, 0, none⟩)) := by
  rcases h.cases with ⟨_, h0⟩ | ⟨vb, cap, rfl, _, _, _, hc, _⟩
  · rw [List.eq_nil_of_length_eq_zero h0] at hi; simp at hi
  · exact ⟨vb, cap, rfl, hc i _ (by unfold pl; rw [List.getElem?_map, hi]; rfl)⟩
set_option maxHeartbeats 2000000 in
theorem path_any (g t : Nat) (σ : St) (many nodes : Int) (F : List Nat) (w : World) (hg : g < 4096) (h : Hp w t σ many nodes F) :
    Calls Try.prog 47 #[.pointer (some ⟨t, 0, none⟩), .int .i64 (g : Nat)] w fun e w' => Below w.heap.size w w' ∧ ((σ.N 3 0 = none ∧ e = .returned (.tuple #[.slice none 0 0, .int .i64 4])) ∨
      ∃ κ l v, κ ≤ 3 ∧ l.length + κ = 4 ∧ (∀ i, i < l.length → σ.N (3 - i) (g / 8 ^ (4 - i)) = l[i]?) ∧ σ.bel κ (g / 8 ^ κ) = none ∧ Sq w' 61 1 v l.length (pl l) ∧ (∀ b, b ∈ vblk v → w.heap.size ≤ b) ∧ e = .returned (.tuple #[v, .int .i64 (κ : Nat)])) := by
  have HH := Lib.hid h
  obtain ⟨c0, _, _, _⟩ := h.tcells
  clear h
  cases hN : σ.N 3 0 with
  | none =>
    rw [hN] at c0
    have c0' : w.cell? ⟨t, 0, none⟩ = some (.pointer none) := c0
    clear c0
    go_enter Try.func47, Try.ntmps47
    go_wp2_with fail
    go_loopw [6, 7, 8] (fun s6 s7 s wr => s6 = .slice none 0 0 ∧ s7 = .pointer none ∧ s = .int .i64 3 ∧ wr = w) (fun _ _ s _ => 0)
    case atStart => exact ⟨rfl, rfl, rfl, rfl⟩
    case round =>
      obtain ⟨rfl, rfl, rfl, rfl⟩ := hrel
      go_wp2_with fail
      go_returns
      exact ⟨Below.refl _ _, .inl ⟨trivial, rfl⟩⟩
  | some b0 =>
    rw [hN] at c0
    have c0' : w.cell? ⟨t, 0, none⟩ = some (.pointer (some ⟨b0, 0, none⟩)) := c0
    have hg4 : g / 8 ^ 4 = 0 := by show g / 4096 = 0; omega
    have HN0 := Lib.hid (show σ.N 3 (g / 8 ^ (3 + 1)) = some b0 from by rw [show g / 8 ^ (3 + 1) = 0 from hg4]; exact hN)
    have HNN := Lib.hid hN
    clear c0 hN hg4
    obtain ⟨i0, hi0, hz0, hz1, hz2⟩ := info_parts (show (Try.prog.info? 61).map (fun i => (i.zero, i.size, i.bytes)) = some (some (.pointer none), 1, 8) by kernel_rfl)
    go_enter Try.func47, Try.ntmps47
    go_wp2_with fail
    go_loopw [6, 7, 8] (fun s6 s7 s8 wr => ∃ j : Nat, j ≤ 3 ∧ s8 = .int .i64 (j : Nat) ∧ ∃ b : Nat, s7 = .pointer (some ⟨b, 0, none⟩) ∧ ∃ l, RowKit.Hid (σ.N j (g / 8 ^ (j + 1)) = some b ∧ Pth σ g j l ∧ Below w.heap.size w wr ∧ Sq wr 61 1 s6 l.length (pl l) ∧ ∀ b, b ∈ vblk s6 → w.heap.size ≤ b)) (fun _ _ s _ => (intOf s).toNat)
    case atStart => exact ⟨3, Nat.le_refl _, rfl, b0, rfl, [], Lib.hid ⟨HN0.out, ⟨rfl, fun i hi => by simp at hi⟩, Below.refl _ _, Sq.nil _ _ _, fun b hb => by simp [vblk_nil] at hb⟩⟩
    case round =>
      obtain ⟨j, hj, rfl, b, rfl, l, HL⟩ := hrel
      have hll : l.length ≤ 3 := by have := HL.out.2.1.1; omega
      have hA : Below wr.heap.size wr (wr.alloc (.cells #[.pointer (some ⟨b, 0, none⟩)] 61)) := (Below.refl _ _).alloc (Nat.le_refl _) _
      have hown := Sq.below HL.out.2.2.2.1 hA
      have hnew := news_alloc wr #[.pointer (some ⟨b, 0, none⟩)] 61
      have HA := Lib.hid hA
      clear hA
      go_wp2_with (at_builtin; refine wpList_append_any _ rfl (.tmp 18) (.tmp 20) 72 rfl 61 i0 (.pointer none) 1 8 Try.underlying72 hi0 hz0 hz1 hz2 rfl (by decide) u6 l.length (pl l) rfl hown (some ⟨wr.heap.size, 0, none⟩) 1 1 (pl [b]) rfl (fun h => by cases h) rfl (fun a ha => by cases ha; exact hnew) (pl_onecell _) (by unfold maxLen; omega) (by omega) ?_; intro v7 w7 hown7 hgr7; have HP := Lib.hid (And.intro hown7 ((HL.out.2.2.1.trans (HA.out.mono HL.out.2.2.1.size)).trans (hgr7.below (C := w.heap.size) HL.out.2.2.2.2 (by have := HL.out.2.2.1.size; have := HA.out.size; omega)))); have HG := Lib.hid (hgr7.ge (C := w.heap.size) HL.out.2.2.2.2 (by have := HL.out.2.2.1.size; have := HA.out.size; omega)); clear hgr7 hown hnew; obtain ⟨ao7, cap7, rfl, _, _⟩ := Sq.slice hown7; clear hown7)
      have H7 := Lib.hid (HH.out.below HP.out.2)
      have hlt : g / 8 ^ j % 8 < 8 := by omega
      have hcell := H7.out.bcell HL.out.1 hlt
      rw [bel_eq] at hcell
      have HS := Lib.hid (fun n => (slot_any g j hg hj (w7.drewN n)).mono fun _ _ h => (⟨h.1, h.2.symm⟩ : _ ∧ _))
      generalize hq : g / 8 ^ j = q at *
      generalize hs : q % 8 = s at *
      have h0 : (0 : Int) ≤ ((s : Nat) : Int) := by omega
      have h1 : ((s : Nat) : Int) < 8 := by omega
      cases hb : σ.bel j q with
      | none =>
        rw [hb] at hcell
        have hcell' : w7.cell? ⟨b, s, none⟩ = some (.pointer none) := hcell
        clear hcell
        go_quiet ((go_at_call 33; exact Calls.quiet_of_same (HS.out _)))
        go_wp2_with fail
        go_returns
        have hp := Pth.last HL.out.2.1 HL.out.1
        exact ⟨below_drewN HP.out.2 nq, .inr ⟨j, l ++ [b], _, hj, by have := HL.out.2.1.1; simp; omega, hp, by rw [hq]; exact hb, Sq_pl HP.out.1 nq, HG.out, rfl⟩⟩
      | some b' =>
        rw [hb] at hcell
        have hcell' : w7.cell? ⟨b, s, none⟩ = some (.pointer (some ⟨b', 0, none⟩)) := hcell
        clear hcell
        go_quiet ((go_at_call 33; exact Calls.quiet_of_same (HS.out _)))
        have hj0 : j ≠ 0 := by rintro rfl; simp [St.bel] at hb
        obtain ⟨i, rfl⟩ := Nat.exists_eq_succ_of_ne_zero hj0
        have hbN : σ.N i q = some b' := by unfold St.bel at hb; rw [if_neg (by omega)] at hb; exact hb
        have HZ : RowKit.Hid (σ.N i (g / 8 ^ (i + 1)) = some b' ∧ Pth σ g i (l ++ [b]) ∧ Below w.heap.size w (w7.drewN nq) ∧ Sq (w7.drewN nq) 61 1 (.slice ao7 (l.length + 1) cap7) (l ++ [b]).length (pl (l ++ [b])) ∧ ∀ b, b ∈ vblk (.slice ao7 (l.length + 1) cap7) → w.heap.size ≤ b) :=
          Lib.hid ⟨by rw [show g / 8 ^ (i + 1) = q from hq]; exact hbN, HL.out.2.1.more HL.out.1, below_drewN HP.out.2 nq, Sq_pl HP.out.1 nq, HG.out⟩
        clear hcell' hb hbN
        go_wp2_with fail
        exact ⟨⟨i, by omega, by simp, b', rfl, l ++ [b], HZ⟩, by simp [intOf]⟩

end Go.Proofs.Ytdnnfoojdfmajaa
