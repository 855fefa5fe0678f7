/- Parts of the proofs of layer 25 (clock): contracts of its functions, and the laws' walks. -/
import Derived.Test.YtehbonhdhblpgaaProg
import Derived.WalkKit
import Derived.WalkSpells
import Derived.WalkLawsBesides
import Derived.BigQuiet
import Derived.Deep.QuietTactic
import Derived.Lib.Hide
import Derived.Deep.RegionHeld3
import Derived.Deep.DeepCutAuto
import Derived.KernelRfl
import Derived.Deep.OwnRows
import Derived.Laws.CopyOwn
import Derived.Laws.CopyRow
import Derived.StillTailTactics
import Derived.Deep.RegionLaw
import Derived.Test.YtehbonhdhblpgaaC17
namespace Go.Proofs.Ytehbonhdhblpgaa
open Go.RowKit
set_option linter.unusedVariables false
set_option linter.unusedSimpArgs false

/-! The program's keys and the ring of the reference: plain facts. -/
theorem rot_at (A B : List K) : rot (A ++ B) A.length = B ++ A := by
  unfold rot
  rw [List.drop_left' rfl, List.take_left' rfl]
theorem rot_split {L : List K} {h : Nat} (hh : h ≤ L.length) : ∃ A B, L = A ++ B ∧ A.length = h ∧ rot L h = B ++ A :=
  ⟨L.take h, L.drop h, (List.take_append_drop h L).symm, by rw [List.length_take]; omega, rfl⟩
theorem rot_step {L : List K} {h : Nat} {k k' : K} (hk : L[h]? = some k) : ∃ rest, rot L h = k :: rest ∧ rot (L.set h k') ((h + 1) % L.length) = rest ++ [k'] := by
  have hh := (List.getElem?_eq_some_iff.1 hk).1
  have hd : L.drop h = k :: L.drop (h + 1) := by
    rw [← List.getElem_cons_drop hh]
    congr 1
    exact (List.getElem?_eq_some_iff.1 hk).2
  have hs : L.set h k' = L.take h ++ k' :: L.drop (h + 1) := by
    rw [List.set_eq_take_append_cons_drop, if_pos hh]
  refine ⟨L.drop (h + 1) ++ L.take h, by unfold rot; rw [hd]; rfl, ?_⟩
  by_cases h1 : h + 1 < L.length
  · rw [Nat.mod_eq_of_lt h1, hs]
    have := rot_at (L.take h ++ [k']) (L.drop (h + 1))
    rw [List.length_append, List.length_singleton, List.length_take, Nat.min_eq_left (by omega)] at this
    rw [List.append_assoc] at this
    rw [List.append_assoc]
    exact this
  · have he : h + 1 = L.length := by omega
    rw [he, Nat.mod_self, hs, ← he, List.drop_of_length_le (by omega)]
    simp [rot]
theorem rot_keys (L : List K) (h : Nat) : ((rot L h).map K.key).Perm (L.map K.key) := (rot_perm L h).map _
theorem rot_mem (L : List K) (h : Nat) (k : K) : k ∈ rot L h ↔ k ∈ L := (rot_perm L h).mem_iff
theorem rot_in (L : List K) (h : Nat) (x : S) : idx (rot L h) x < (rot L h).length ↔ idx L x < L.length := by
  rw [idx_mem, idx_mem]
  constructor
  · rintro ⟨k, h1, h2⟩; exact ⟨k, (rot_mem L h k).1 h1, h2⟩
  · rintro ⟨k, h1, h2⟩; exact ⟨k, (rot_mem L h k).2 h1, h2⟩
/-- The program's keys are the ring's, from the hand on. -/
def Rel (ks L : List K) (h : Nat) : Prop := ks = rot L h ∧ (ks.map K.key).Nodup ∧ (h < L.length ∨ (L = [] ∧ h = 0))
theorem Rel.length {ks L : List K} {h : Nat} (r : Rel ks L h) : ks.length = L.length := by rw [r.1, rot_length]
theorem Rel.acode {ks L : List K} {h : Nat} (r : Rel ks L h) (x : S) : acode ks x = acode L x := by
  unfold Go.Proofs.Ytehbonhdhblpgaa.acode
  rw [r.1]
  by_cases hx : idx L x < L.length
  · rw [if_pos hx, if_pos ((rot_in L h x).2 hx)]
  · rw [if_neg hx, if_neg (fun q => hx ((rot_in L h x).1 q))]
theorem Rel.ecode {ks L : List K} {h : Nat} (r : Rel ks L h) (x : S) : ecode ks x = ecode L x := by
  unfold Go.Proofs.Ytehbonhdhblpgaa.ecode
  rw [r.1]
  by_cases hx : idx L x < L.length
  · rw [if_pos hx, if_pos ((rot_in L h x).2 hx)]
  · rw [if_neg hx, if_neg (fun q => hx ((rot_in L h x).1 q))]
theorem Rel.nil : Rel [] [] 0 := ⟨rfl, by simp, .inr ⟨rfl, rfl⟩⟩
theorem Rel.add {ks L : List K} {h : Nat} (r : Rel ks L h) (x : S) : Rel (addK ks x) (raddL L h x) (raddH L h x) := by
  refine ⟨?_, nodup_add r.2.1 x, ?_⟩
  · have r1 := r.1
    subst r1
    unfold addK raddL raddH
    by_cases hx : idx L x < L.length
    · rw [if_pos hx, if_pos hx, if_pos ((rot_in L h x).2 hx)]
    · rw [if_neg hx, if_neg hx, if_neg (fun q => hx ((rot_in L h x).1 q))]
      rcases r.2.2 with hh | ⟨rfl, rfl⟩
      · obtain ⟨A, B, rfl, hl, hr⟩ := rot_split (Nat.le_of_lt hh)
        subst hl
        rw [List.length_append] at hh
        rw [Nat.mod_eq_of_lt (by rw [List.length_append]; omega), hr]
        unfold ins
        rw [List.take_left' rfl, List.drop_left' rfl]
        have := rot_at (A ++ [⟨x.s, x.p, true, 0⟩]) B
        rw [List.length_append, List.length_singleton, List.append_assoc] at this
        rw [List.append_assoc]
        exact this.symm
      · rfl
  · unfold raddL raddH
    by_cases hx : idx L x < L.length
    · rw [if_pos hx, if_pos hx]; exact r.2.2
    · rw [if_neg hx, if_neg hx]
      left
      have hl : (ins L h ⟨x.s, x.p, true, 0⟩).length = L.length + 1 := by
        unfold ins
        rw [List.length_append, List.length_cons, List.length_take, List.length_drop]
        rcases r.2.2 with hh | ⟨rfl, rfl⟩
        · omega
        · simp
      rw [hl]
      exact Nat.mod_lt _ (by omega)
/-- The key of a spot touched, wherever it stands. -/
def tch (x : S) (k : K) : K := if k.key = x then { k with t := true } else k
theorem touchR_map : ∀ (l : List K) (x : S), (l.map K.key).Nodup → touchR l x = l.map (tch x)
  | [], _, _ => rfl
  | k :: l, x, hn => by
    rw [List.map_cons, List.nodup_cons] at hn
    unfold touchR
    by_cases hk : k.key = x
    · rw [if_pos hk, List.map_cons]
      congr 1
      · unfold tch; rw [if_pos hk]
      · have : ∀ k' ∈ l, tch x k' = k' := fun k' hm => by
          unfold tch
          rw [if_neg]
          intro e
          exact hn.1 (List.mem_map.2 ⟨k', hm, e.trans hk.symm⟩)
        exact ((List.map_congr_left this).trans (List.map_id' l)).symm
    · rw [if_neg hk, List.map_cons, touchR_map l x hn.2]
      congr 1
      unfold tch; rw [if_neg hk]
theorem rot_map (f : K → K) (L : List K) (h : Nat) : rot (L.map f) h = (rot L h).map f := by
  unfold rot
  rw [List.map_append, List.map_drop, List.map_take]
theorem Rel.nodup {ks L : List K} {h : Nat} (r : Rel ks L h) : (L.map K.key).Nodup := by
  have := r.2.1
  rw [r.1] at this
  exact ((rot_keys L h).nodup_iff).1 this
theorem Rel.touch {ks L : List K} {h : Nat} (r : Rel ks L h) (x : S) : Rel (touchK ks x) (touchK L x) h := by
  refine ⟨?_, nodup_touch r.2.1 x, ?_⟩
  · rw [touchK_eq, touchK_eq, touchR_map _ _ r.2.1, touchR_map _ _ r.nodup, rot_map, ← r.1]
  · rcases r.2.2 with hh | ⟨rfl, rfl⟩
    · left; rw [touchK_length]; exact hh
    · exact .inr ⟨rfl, rfl⟩
theorem delR_left : ∀ (A B : List K) (x : S), (∃ k ∈ A, k.key = x) → delR (A ++ B) x = delR A x ++ B
  | [], _, _, h => by obtain ⟨k, hk, _⟩ := h; simp at hk
  | a :: A, B, x, h => by
    rw [List.cons_append]
    unfold delR
    by_cases ha : a.key = x
    · rw [if_pos ha, if_pos ha]
    · rw [if_neg ha, if_neg ha, List.cons_append, delR_left A B x]
      obtain ⟨k, hk, e⟩ := h
      rcases List.mem_cons.1 hk with rfl | hk
      · exact absurd e ha
      · exact ⟨k, hk, e⟩
theorem delR_right : ∀ (A B : List K) (x : S), (¬ ∃ k ∈ A, k.key = x) → delR (A ++ B) x = A ++ delR B x
  | [], _, _, _ => rfl
  | a :: A, B, x, h => by
    rw [List.cons_append]
    conv => lhs; unfold delR
    rw [if_neg (fun e => h ⟨a, by simp, e⟩), List.cons_append, delR_right A B x (fun ⟨k, hk, e⟩ => h ⟨k, by simp [hk], e⟩)]
theorem delR_len : ∀ (A : List K) (x : S), (∃ k ∈ A, k.key = x) → (delR A x).length + 1 = A.length
  | [], _, h => by obtain ⟨k, hk, _⟩ := h; simp at hk
  | a :: A, x, h => by
    unfold delR
    by_cases ha : a.key = x
    · rw [if_pos ha, List.length_cons]
    · rw [if_neg ha, List.length_cons, List.length_cons, delR_len A x]
      obtain ⟨k, hk, e⟩ := h
      rcases List.mem_cons.1 hk with rfl | hk
      · exact absurd e ha
      · exact ⟨k, hk, e⟩
theorem idx_left : ∀ (A B : List K) (x : S), (∃ k ∈ A, k.key = x) → idx (A ++ B) x = idx A x
  | [], _, _, h => by obtain ⟨k, hk, _⟩ := h; simp at hk
  | a :: A, B, x, h => by
    rw [List.cons_append]
    unfold idx
    by_cases ha : a.key = x
    · rw [if_pos ha, if_pos ha]
    · rw [if_neg ha, if_neg ha, idx_left A B x]
      obtain ⟨k, hk, e⟩ := h
      rcases List.mem_cons.1 hk with rfl | hk
      · exact absurd e ha
      · exact ⟨k, hk, e⟩
theorem idx_right : ∀ (A B : List K) (x : S), (¬ ∃ k ∈ A, k.key = x) → A.length ≤ idx (A ++ B) x
  | [], _, _, _ => Nat.zero_le _
  | a :: A, B, x, h => by
    rw [List.cons_append]
    unfold idx
    rw [if_neg (fun e => h ⟨a, by simp, e⟩), List.length_cons]
    have := idx_right A B x (fun ⟨k, hk, e⟩ => h ⟨k, by simp [hk], e⟩)
    omega
theorem delK_length' {l : List K} {x : S} (h : idx l x < l.length) : (delK l x).length + 1 = l.length := by
  rw [delK_eq]
  exact delR_len l x ((idx_mem l x).1 h)
theorem Rel.del {ks L : List K} {h : Nat} (r : Rel ks L h) (x : S) : Rel (delK ks x) (delK L x) (rdelH L h x) := by
  have hn := r.nodup
  refine ⟨?_, nodup_del r.2.1 x, ?_⟩
  · rw [r.1, delK_eq, delK_eq]
    unfold rdelH
    by_cases hx : idx L x < L.length
    · rw [if_pos hx]
      rcases r.2.2 with hh | ⟨rfl, rfl⟩
      · obtain ⟨A, B, rfl, hl, hr⟩ := rot_split (Nat.le_of_lt hh)
        subst hl
        rw [hr]
        rw [List.length_append] at hh hx ⊢
        rw [List.map_append, List.nodup_append] at hn
        by_cases hA : ∃ k ∈ A, k.key = x
        · have hB : ¬ ∃ k ∈ B, k.key = x := by
            rintro ⟨k', hk', e'⟩
            obtain ⟨k, hk, e⟩ := hA
            exact hn.2.2 x (List.mem_map.2 ⟨k, hk, e⟩) x (List.mem_map.2 ⟨k', hk', e'⟩) rfl
          have hi : idx (A ++ B) x < A.length := by rw [idx_left A B x hA]; exact (idx_mem A x).2 hA
          have hl := delR_len A x hA
          rw [delR_left A B x hA, delR_right B A x hB]
          unfold rdelH1
          rw [if_pos hi, if_neg (by omega)]
          have e : A.length - 1 = (delR A x).length := by omega
          rw [e, rot_at]
        · have hB : ∃ k ∈ B, k.key = x := by
            obtain ⟨k, hk, e⟩ := (idx_mem (A ++ B) x).1 (by rw [List.length_append]; exact hx)
            rcases List.mem_append.1 hk with h | h
            · exact absurd ⟨k, h, e⟩ hA
            · exact ⟨k, h, e⟩
          have hi := idx_right A B x hA
          have hl := delR_len B x hB
          rw [delR_right A B x hA, delR_left B A x hB]
          have e : rdelH1 (idx (A ++ B) x) A.length = A.length := if_neg (by omega)
          rw [e]
          by_cases h0 : A.length + B.length - 1 ≤ A.length
          · rw [if_pos h0]
            have hb0 : delR B x = [] := List.eq_nil_of_length_eq_zero (by omega)
            rw [hb0]
            simp [rot]
          · rw [if_neg h0, rot_at]
      · simp at hx
    · rw [if_neg hx]
      have hout : ∀ l : List K, ¬ idx l x < l.length → delR l x = l := fun l hl => by
        rw [← delK_eq]
        exact if_neg hl
      rw [hout _ hx, hout _ (fun q => hx ((rot_in L h x).1 q))]
  · unfold rdelH
    by_cases hx : idx L x < L.length
    · rw [if_pos hx]
      have hl := delK_length' hx
      by_cases h0 : L.length - 1 ≤ rdelH1 (idx L x) h
      · rw [if_pos h0]
        by_cases hz : delK L x = []
        · exact .inr ⟨hz, rfl⟩
        · left
          exact List.length_pos_iff.2 hz
      · rw [if_neg h0]
        left
        omega
    · rw [if_neg hx]
      have : delK L x = L := if_neg hx
      rw [this]
      exact r.2.2
theorem Rel.keys_all {ks L : List K} {h : Nat} (r : Rel ks L h) : ks.map K.key = (rot L h).map K.key := by rw [r.1]
/-- The spots told of some keys. -/
theorem swT_length (age : Int) (k : K) : (swT age k).length ≤ 1 := by unfold swT; split <;> (try split) <;> simp
theorem told_length (age : Int) (l : List K) : (l.flatMap (swT age)).length ≤ l.length := by
  induction l with
  | nil => simp
  | cons a l ih =>
    rw [List.flatMap_cons, List.length_append, List.length_cons]
    have := swT_length age a
    omega
theorem sweepT_length (l : List K) (n age : Int) : (sweepT l n age).length ≤ l.length := by
  unfold sweepT
  exact Nat.le_trans (told_length _ _) (by rw [List.length_take]; exact Nat.min_le_right _ _)
/-- The ring behind so many keys passed. -/
def Pass (R L : List K) (h i : Nat) : Prop := rot L h = R.drop i ++ (R.take i).map swK ∧ L.length = R.length ∧ (h < L.length ∨ (L = [] ∧ h = 0))
theorem Pass.lt {R L : List K} {h i : Nat} (p : Pass R L h i) (hi : i < R.length) : h < L.length := by
  rcases p.2.2 with q | ⟨q, _⟩
  · exact q
  · have := p.2.1
    rw [q] at this
    simp at this
    omega
theorem Pass.head {R L : List K} {h i : Nat} (p : Pass R L h i) (hi : i < R.length) : ∃ k, R[i]? = some k ∧ L[h]? = some k := by
  have hk := List.getElem?_eq_getElem hi
  refine ⟨R[i], hk, ?_⟩
  have h0 := rot_get L h 0 (p.lt hi) (by rw [p.2.1]; omega)
  rw [Nat.add_zero, Nat.mod_eq_of_lt (p.lt hi), p.1, List.getElem?_append_left (by rw [List.length_drop]; omega), List.getElem?_drop, Nat.add_zero, hk] at h0
  exact h0.symm
theorem Pass.step {R L : List K} {h i : Nat} {k : K} (p : Pass R L h i) (hk : R[i]? = some k) : Pass R (L.set h (swK k)) ((h + 1) % L.length) (i + 1) := by
  have hi := (List.getElem?_eq_some_iff.1 hk).1
  obtain ⟨k', h1, h2⟩ := p.head hi
  rw [hk] at h1
  cases h1
  obtain ⟨rest, e1, e2⟩ := rot_step (k' := swK k) h2
  have hd : R.drop i = k :: R.drop (i + 1) := by
    rw [← List.getElem_cons_drop hi]
    congr 1
    exact (List.getElem?_eq_some_iff.1 hk).2
  rw [p.1, hd] at e1
  simp only [List.cons_append, List.cons.injEq, true_and] at e1
  refine ⟨?_, by rw [List.length_set]; exact p.2.1, by left; rw [List.length_set]; exact Nat.mod_lt _ (by have := p.lt hi; omega)⟩
  rw [e2, ← e1, take_succ' R i k hk]
  simp
theorem Pass.zero {L : List K} {h : Nat} (hh : h < L.length ∨ (L = [] ∧ h = 0)) : Pass (rot L h) L h 0 := ⟨by simp, (rot_length L h).symm, hh⟩
theorem Pass.done {L L' : List K} {h h' : Nat} {n : Int} (p : Pass (rot L h) L' h' (cnt (rot L h) n)) : rot L' h' = sweepK (rot L h) n := p.1
theorem told_snoc {R : List K} {i : Nat} {k : K} (age : Int) (hk : R[i]? = some k) : (R.take (i + 1)).flatMap (swT age) = (R.take i).flatMap (swT age) ++ swT age k := by
  rw [take_succ' R i k hk, List.flatMap_append]
  simp
theorem cnt_iff (R : List K) (n : Int) (i : Nat) : i < cnt R n ↔ i < R.length ∧ (i : Int) < n := by
  unfold cnt
  split <;> omega

end Go.Proofs.Ytehbonhdhblpgaa
