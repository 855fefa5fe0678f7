/- Parts of the proofs of layer 19 (radix): contracts of its functions, and the laws' walks. -/
import Derived.Test.YtdnnfoojdfmajaaProg
import Derived.WalkKit
import Derived.WalkSpells
import Derived.WalkLawsBesides
import Derived.BigQuiet
import Derived.Deep.QuietTactic
import Derived.Lib.Hide
import Derived.Deep.RegionHeld3
import Derived.Deep.DeepCutAuto
import Derived.KernelRfl
import Derived.Deep.OwnRows
import Derived.Laws.CopyOwn
import Derived.Laws.CopyRow
import Derived.StillTailTactics
import Derived.Deep.RegionLaw
import Derived.Handy
import Derived.Deep.CutRange
import Derived.Deep.CutBlock
import Derived.Test.YtdnnfoojdfmajaaX19
namespace Go.Proofs.Ytdnnfoojdfmajaa
open Go.RowKit
set_option linter.unusedVariables false
set_option linter.unusedSimpArgs false

/-- An entry's cells. -/
def cs (x : X) : List Value := [.int .i64 (x.p : Nat), .int .i64 (3 * ((x.k : Nat) : Int)), .int .i64 x.v, .bool x.a, .bool x.b, .bool x.c]
theorem cs_length (x : X) : (cs x).length = 6 := rfl
def rc (l : List X) : List Value := l.flatMap cs
theorem rc_length (l : List X) : (rc l).length = l.length * 6 := flat_length _ 6 cs_length l
theorem rc_get (l : List X) (i j : Nat) (hj : j < 6) (k : X) (h : l[i]? = some k) : (rc l)[i * 6 + j]? = (cs k)[j]? := by
  have h0 := flat_get cs 6 cs_length l i j hj
  rw [h] at h0
  exact h0
theorem rc_one (k : X) : rc [k] = cs k := by simp [rc]
theorem rc_append (a b : List X) : rc (a ++ b) = rc a ++ rc b := by simp [rc]
theorem rc_onecell (l : List X) : ∀ u ∈ rc l, u.oneCell' = true := by
  intro u hu
  obtain ⟨k, _, hk⟩ := List.mem_flatMap.1 hu
  simp only [cs, List.mem_cons, List.not_mem_nil, or_false] at hk
  rcases hk with rfl | rfl | rfl | rfl | rfl | rfl <;> rfl
theorem take_succ' {α : Type} (l : List α) (i : Nat) (a : α) (h : l[i]? = some a) : l.take (i + 1) = l.take i ++ [a] := by rw [List.take_add_one, h]; rfl
theorem ne_nil_of_lt {α : Type} {l : List α} {i : Nat} (h : i < l.length) : l ≠ [] := fun e => by rw [e] at h; simp at h
/-- A row of entries. -/
def Told (w : World) (v : Value) (l : List X) : Prop := Sq w 40 6 v l.length (rc l)
theorem Told.lt {w : World} {v : Value} {l : List X} (h : Told w v l) : ∀ b, b ∈ vblk v → b < w.heap.size := Sq.lt h
theorem Told.below {w w' : World} {v : Value} {l : List X} (h : Told w v l) (hb : Below w.heap.size w w') : Told w' v l := Sq.below h hb
theorem Told.chg {w w' : World} {v : Value} {l : List X} {F F' : List Nat} (h : Told w v l) (hc : Chg F F' w w') (hs : Sep (vblk v) F) : Told w' v l := Sq.chg h hc hs
theorem Told.slice {w : World} {v : Value} {l : List X} (h : Told w v l) : ∃ ao cap, v = .slice ao l.length cap ∧ l.length ≤ cap ∧ cap ≤ maxLen := Sq.slice h
theorem Told.read {w : World} {v : Value} {l : List X} (h : Told w v l) (hl : l ≠ []) : ∃ b cap, v = .slice (some ⟨b, 0, none⟩) l.length cap ∧ l.length ≤ cap ∧ cap ≤ maxLen ∧ b < w.heap.size ∧ (∀ i k, l[i]? = some k → w.cell? ⟨b, i * 6, none⟩ = some (.int .i64 (k.p : Nat)) ∧ w.cell? ⟨b, i * 6 + 1, none⟩ = some (.int .i64 (3 * ((k.k : Nat) : Int))) ∧ w.cell? ⟨b, i * 6 + 2, none⟩ = some (.int .i64 k.v) ∧
    w.cell? ⟨b, i * 6 + 3, none⟩ = some (.bool k.a) ∧ w.cell? ⟨b, i * 6 + 4, none⟩ = some (.bool k.b) ∧ w.cell? ⟨b, i * 6 + 5, none⟩ = some (.bool k.c)) ∧ ∀ j, w.frozen? ⟨b, j, none⟩ = false := by
  rcases Sq.cases h with ⟨_, h0⟩ | ⟨b, cap, rfl, h1, h2, hb, hcell, hf⟩
  · exact (hl (List.eq_nil_of_length_eq_zero h0)).elim
  · exact ⟨b, cap, rfl, h1, h2, hb, fun i k hk => ⟨hcell _ _ (rc_get l i 0 (by decide) k hk), hcell _ _ (rc_get l i 1 (by decide) k hk), hcell _ _ (rc_get l i 2 (by decide) k hk), hcell _ _ (rc_get l i 3 (by decide) k hk), hcell _ _ (rc_get l i 4 (by decide) k hk), hcell _ _ (rc_get l i 5 (by decide) k hk)⟩, hf⟩
theorem Told.one_more {w : World} {v : Value} {l : List X} {k : X} (h : Sq w 40 6 v (l.length + 1) (rc l ++ rc [k])) : Told w v (l ++ [k]) := by
  unfold Told
  rw [List.length_append, rc_append]
  exact h
theorem cell_of_one {w : World} {b : Nat} {u : Value} {t : TypeId} (h : w.heap[b]? = some (.cells #[u] t (0, 0))) : w.cell? ⟨b, 0, none⟩ = some u := cell_of_row w b 0 _ t _ h
theorem free_of_one {w : World} {b j : Nat} {u : Value} {t : TypeId} (h : w.heap[b]? = some (.cells #[u] t (0, 0))) : w.frozen? ⟨b, j, none⟩ = false := frozen_of_row w b j _ t h
/-- The reference's entries: its struct in block g, its row. -/
def Rt (w : World) (g : Nat) (F : List Nat) (L : List X) : Prop := ∃ v, w.heap[g]? = some (.cells #[v] 36 (0, 0)) ∧ Told w v L ∧ F = g :: vblk v ∧ g ∉ vblk v
theorem Rt.lt {w : World} {g : Nat} {F : List Nat} {L : List X} (h : Rt w g F L) : ∀ b, b ∈ F → b < w.heap.size := by
  obtain ⟨v, hg, ht, rfl, h1⟩ := h
  intro b hb
  rcases List.mem_cons.1 hb with rfl | hb
  · exact lt_of_block hg
  · exact ht.lt b hb
theorem Rt.chg {w w' : World} {g : Nat} {F G G' : List Nat} {L : List X} (h : Rt w g F L) (hc : Chg G G' w w') (hs : Sep F G) : Rt w' g F L := by
  have hl := h.lt
  obtain ⟨v, hg, ht, rfl, h1⟩ := h
  exact ⟨v, (hc.block (hl g (by simp)) (hs g (by simp))).trans hg, ht.chg hc fun b hb => hs b (by simp [hb]), rfl, h1⟩
theorem Rt.below {w w' : World} {g : Nat} {F : List Nat} {L : List X} (h : Rt w g F L) (hb : Below w.heap.size w w') : Rt w' g F L := h.chg (Chg.of_below (F := []) hb) fun _ _ hm => by simp at hm
theorem Rt.drew {w : World} {g : Nat} {F : List Nat} {L : List X} (h : Rt w g F L) : Rt w.drew g F L := h
theorem Rt.drewN {w : World} {g : Nat} {F : List Nat} {L : List X} (h : Rt w g F L) (k : Nat) : Rt (w.drewN k) g F L := h
theorem Rt.cells {w : World} {g : Nat} {F : List Nat} {L : List X} (h : Rt w g F L) : ∃ ao cap, w.cell? ⟨g, 0, none⟩ = some (.slice ao L.length cap) ∧ Told w (.slice ao L.length cap) L ∧ g ∉ vblk (.slice ao L.length cap) ∧ F = g :: vblk (.slice ao L.length cap) ∧ w.heap[g]? = some (.cells #[.slice ao L.length cap] 36 (0, 0)) := by
  obtain ⟨v, hg, ht, rfl, h1⟩ := h
  obtain ⟨ao, cap, rfl, _, _⟩ := ht.slice
  exact ⟨ao, cap, cell_of_one hg, ht, h1, rfl, hg⟩
theorem siz_at {k : Nat} (hk : k ≤ 2) (w : World) : Calls Try.prog 14 #[.int .i64 (3 * ((k : Nat) : Int))] w fun e w' => e = .returned (.int .i64 ((8 ^ k : Nat) : Int)) ∧ w' = w := by
  have := size_any (3 * ((k : Nat) : Int)) w
  rw [show siz (3 * ((k : Nat) : Int)) = ((8 ^ k : Nat) : Int) from siz_pow hk] at this
  exact this.mono fun _ _ h => ⟨h.1, h.2.symm⟩
def CovI (x : X) (page : Int) : Prop := (x.p : Int) ≤ page ∧ page < (x.p : Int) + ((8 ^ x.k : Nat) : Int)
set_option maxHeartbeats 4000000 in
theorem RAt_any (f : Int) (g : Nat) (F : List Nat) (L : List X) (w : World) (h : Rt w g F L) (hg : Good L) :
    Calls Try.prog 13 #[.pointer (some ⟨g, 0, none⟩), .int .i64 f] w fun e w' => Below w.heap.size w w' ∧ (((∀ x ∈ L, ¬ CovI x f) ∧ e = .returned (.int .i64 (-1))) ∨ ∃ i : Nat, ∃ x : X, L[i]? = some x ∧ CovI x f ∧ e = .returned (.int .i64 (i : Nat))) := by
  obtain ⟨al, cl, c0, hT, _⟩ := h.cells
  have HT := Lib.hid (And.intro hT h)
  have HG := Lib.hid hg
  have hlen : L.length ≤ 9223372036854775807 := by obtain ⟨ao, cap, _, h1, h2⟩ := hT.slice; unfold maxLen at h2; omega
  clear h hT hg
  go_enter Try.func13, Try.ntmps13
  go_wp2_with fail
  go_loopw [5] (fun s wr => ∃ (i : Nat), i ≤ L.length ∧ s = .int .i64 (i : Nat) ∧ RowKit.Hid (Below w.heap.size w wr ∧ ∀ x ∈ L.take i, ¬ CovI x f)) (fun s _ => L.length - (intOf s).toNat)
  case atStart => exact ⟨0, Nat.zero_le _, rfl, Lib.hid ⟨Below.refl _ _, fun e he => by simp at he⟩⟩
  case round =>
    obtain ⟨i, hi, rfl, HL⟩ := hrel
    have c0' := cell_keep HL.out.1 c0
    by_cases hil : i < L.length
    · obtain ⟨bl, cl2, hv, _, _, hbl, hcell, _⟩ := HT.out.1.read (ne_nil_of_lt hil)
      cases hv
      have hk := List.getElem?_eq_getElem hil
      generalize L[i] = k at hk
      obtain ⟨e0, e1, _⟩ := hcell i _ hk
      have e0' := cell_keep HL.out.1 e0
      have e1' := cell_keep HL.out.1 e1
      have hiI : ((i : Nat) : Int) < ((L.length : Nat) : Int) := by omega
      have hxok := HG.out.1 k (List.mem_of_getElem? hk)
      have hkp := hxok.lt
      have hk2 := hxok.1
      have HTK := Lib.hid (And.intro (take_succ' L i _ hk) hk)
      have HSZ := Lib.hid (fun W => siz_at hk2 W)
      have hsz : 8 ^ k.k ≤ 64 := by rcases k3 hk2 with e | e | e <;> rw [e] <;> decide
      clear hcell hk hbl e0 e1 hxok
      obtain ⟨kp, hkpE⟩ : ∃ kp, k.p = kp := ⟨_, rfl⟩
      obtain ⟨sz, hszE⟩ : ∃ sz, 8 ^ k.k = sz := ⟨_, rfl⟩
      have HE := Lib.hid (And.intro hkpE hszE)
      rw [hkpE] at e0' hkp
      rw [hszE] at HSZ hsz
      clear hkpE hszE
      obtain ⟨kk, hkk⟩ : ∃ kk, k.k = kk := ⟨_, rfl⟩
      rw [hkk] at e1' HSZ hk2
      clear hkk
      have HNO := Lib.hid (fun (hn : ¬ CovI k f) => (fun e he => by
        rw [HTK.out.1] at he
        rcases List.mem_append.1 he with he | he
        · exact HL.out.2 e he
        · simp at he; subst he; exact hn : ∀ x ∈ L.take (i + 1), ¬ CovI x f))
      by_cases m1 : ((kp : Nat) : Int) ≤ f
      · by_cases m2 : f < ((kp : Nat) : Int) + ((sz : Nat) : Int)
        · go_upto_region 4 with fail
          go_quiet ((go_at_call 14; exact Calls.quiet_of_same (HSZ.out _)))
          go_wp2_with fail
          go_ret
          exact ⟨below_drewN HL.out.1 nq, .inr ⟨i, k, HTK.out.2, ⟨by rw [HE.out.1]; exact m1, by rw [HE.out.1, HE.out.2]; exact m2⟩, rfl⟩⟩
        · go_upto_region 4 with fail
          go_quiet ((go_at_call 14; exact Calls.quiet_of_same (HSZ.out _)))
          go_wp2_with fail
          exact ⟨⟨i + 1, hil, by simp, Lib.hid ⟨below_drewN HL.out.1 nq, HNO.out fun hc => m2 (by have := hc.2; rw [HE.out.1, HE.out.2] at this; exact this)⟩⟩, by simp [intOf]; omega⟩
      · go_upto_region 4 with fail
        go_quiet (fail)
        go_wp2_with fail
        exact ⟨⟨i + 1, hil, by simp, Lib.hid ⟨below_drewN HL.out.1 nq, HNO.out fun hc => m1 (by have := hc.1; rw [HE.out.1] at this; exact this)⟩⟩, by simp [intOf]; omega⟩
    · have hil2 : i = L.length := by omega
      have hno := HL.out
      rw [hil2, List.take_length] at hno
      have HN := Lib.hid hno
      clear hno
      go_wp2_with fail
      go_ret
      exact ⟨HN.out.1, .inl ⟨HN.out.2, rfl⟩⟩

end Go.Proofs.Ytdnnfoojdfmajaa
