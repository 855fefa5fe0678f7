/- Parts of the proofs of layer 25 (clock): contracts of its functions, and the laws' walks. -/
import Derived.Test.YtehbonhdhblpgaaProg
import Derived.WalkKit
import Derived.WalkSpells
import Derived.WalkLawsBesides
import Derived.BigQuiet
import Derived.Deep.QuietTactic
import Derived.Lib.Hide
import Derived.Deep.RegionHeld3
import Derived.Deep.DeepCutAuto
import Derived.KernelRfl
import Derived.Deep.OwnRows
import Derived.Laws.CopyOwn
import Derived.Laws.CopyRow
import Derived.StillTailTactics
import Derived.Deep.RegionLaw
import Derived.Test.YtehbonhdhblpgaaC10
namespace Go.Proofs.Ytehbonhdhblpgaa
open Go.RowKit
set_option linter.unusedVariables false
set_option linter.unusedSimpArgs false

/-! Plain facts on keys in a row. -/
def touchR : List K → S → List K
  | [], _ => []
  | k :: l, x => if k.key = x then { k with t := true } :: l else k :: touchR l x
def delR : List K → S → List K
  | [], _ => []
  | k :: l, x => if k.key = x then l else k :: delR l x
theorem touchK_eq : ∀ (l : List K) (x : S), touchK l x = touchR l x
  | [], x => by simp [touchK, touchR, idx]
  | k :: l, x => by
    have ih := touchK_eq l x
    unfold touchK at ih ⊢
    unfold touchR
    by_cases h : k.key = x
    · rw [if_pos h]
      simp [idx, h]
    · rw [if_neg h, ← ih]
      have hi : idx (k :: l) x = idx l x + 1 := by rw [idx, if_neg h]
      rw [hi]
      by_cases hl : idx l x < l.length
      · rw [if_pos hl, if_pos (by rw [List.length_cons]; omega)]
        simp
      · rw [if_neg hl, if_neg (by rw [List.length_cons]; omega)]
theorem delK_eq : ∀ (l : List K) (x : S), delK l x = delR l x
  | [], x => by simp [delK, delR, idx]
  | k :: l, x => by
    have ih := delK_eq l x
    unfold delK at ih ⊢
    unfold delR
    by_cases h : k.key = x
    · rw [if_pos h]
      simp [idx, h]
    · rw [if_neg h, ← ih]
      have hi : idx (k :: l) x = idx l x + 1 := by rw [idx, if_neg h]
      rw [hi]
      by_cases hl : idx l x < l.length
      · rw [if_pos hl, if_pos (by rw [List.length_cons]; omega)]
        simp
      · rw [if_neg hl, if_neg (by rw [List.length_cons]; omega)]
theorem idx_mem : ∀ (l : List K) (x : S), idx l x < l.length ↔ ∃ k ∈ l, k.key = x
  | [], x => by simp [idx]
  | k :: l, x => by
    have ih := idx_mem l x
    unfold idx
    by_cases h : k.key = x
    · rw [if_pos h]
      exact ⟨fun _ => ⟨k, by simp, h⟩, fun _ => by simp⟩
    · rw [if_neg h, List.length_cons]
      constructor
      · intro hl
        obtain ⟨k', h1, h2⟩ := ih.1 (by omega)
        exact ⟨k', by simp [h1], h2⟩
      · rintro ⟨k', h1, h2⟩
        rcases List.mem_cons.1 h1 with rfl | h1
        · exact absurd h2 h
        · have := ih.2 ⟨k', h1, h2⟩
          omega
theorem touchR_keys : ∀ (l : List K) (x : S), (touchR l x).map K.key = l.map K.key
  | [], _ => rfl
  | k :: l, x => by
    unfold touchR
    split
    · rfl
    · rw [List.map_cons, touchR_keys l x, List.map_cons]
theorem touchR_mem : ∀ (l : List K) (x : S) (k : K), k ∈ touchR l x → ∃ k' ∈ l, k.key = k'.key ∧ k.a = k'.a
  | [], _, _, h => by simp [touchR] at h
  | a :: l, x, k, h => by
    unfold touchR at h
    split at h
    · rcases List.mem_cons.1 h with rfl | h
      · exact ⟨a, by simp, rfl, rfl⟩
      · exact ⟨k, by simp [h], rfl, rfl⟩
    · rcases List.mem_cons.1 h with rfl | h
      · exact ⟨k, by simp, rfl, rfl⟩
      · obtain ⟨k', h1, h2⟩ := touchR_mem l x k h
        exact ⟨k', by simp [h1], h2⟩
theorem touchR_touched : ∀ (l : List K) (x : S), (l.map K.key).Nodup → ∀ k ∈ touchR l x, k.key = x → k.t = true
  | [], _, _, k, h, _ => by simp [touchR] at h
  | a :: l, x, hn, k, h, hk => by
    rw [List.map_cons, List.nodup_cons] at hn
    unfold touchR at h
    split at h
    · rename_i ha
      rcases List.mem_cons.1 h with rfl | h
      · rfl
      · exact absurd (List.mem_map.2 ⟨k, h, hk.trans ha.symm⟩) hn.1
    · rename_i ha
      rcases List.mem_cons.1 h with rfl | h
      · exact absurd hk ha
      · exact touchR_touched l x hn.2 k h hk
theorem delR_sub : ∀ (l : List K) (x : S), (delR l x).Sublist l
  | [], _ => List.Sublist.refl _
  | k :: l, x => by
    unfold delR
    split
    · exact List.sublist_cons_self _ _
    · exact (delR_sub l x).cons_cons _
theorem delR_mem : ∀ (l : List K) (x : S) (k : K), k ∈ l → k.key ≠ x → k ∈ delR l x
  | [], _, _, h, _ => by simp at h
  | a :: l, x, k, h, hk => by
    unfold delR
    rcases List.mem_cons.1 h with rfl | h
    · rw [if_neg hk]; simp
    · split
      · exact h
      · simp [delR_mem l x k h hk]
theorem swK_key (k : K) : (swK k).key = k.key := by unfold swK; split <;> rfl
theorem swT_mem {age : Int} {k : K} {x : S} (h : x ∈ swT age k) : x = k.key ∧ k.t = false ∧ age ≤ wrap64 (k.a + 1) := by
  unfold swT at h
  split at h
  · simp at h
  · split at h
    · simp at h
      exact ⟨h, by simpa using ‹¬k.t = true›, ‹_›⟩
    · simp at h
theorem sweepK_keys (l : List K) (n : Int) : (sweepK l n).map K.key = (l.map K.key).drop (cnt l n) ++ (l.map K.key).take (cnt l n) := by
  unfold sweepK
  rw [List.map_append, List.map_drop, List.map_map, List.map_take]
  congr 2
  exact List.map_congr_left fun k _ => swK_key k
theorem rot_perm {α : Type} (l : List α) (n : Nat) : (l.drop n ++ l.take n).Perm l := List.perm_append_comm.trans (by rw [List.take_append_drop])
theorem sweepK_length (l : List K) (n : Int) : (sweepK l n).length = l.length := by
  unfold sweepK
  rw [List.length_append, List.length_map, ← List.length_append]
  exact (rot_perm l _).length_eq
theorem addK_length (l : List K) (x : S) : (addK l x).length ≤ l.length + 1 := by unfold addK; split <;> simp
theorem touchR_length (l : List K) (x : S) : (touchR l x).length = l.length := by
  have := congrArg List.length (touchR_keys l x)
  simpa using this
theorem delR_length (l : List K) (x : S) : (delR l x).length ≤ l.length := (delR_sub l x).length_le
/-- A spot is there, has not been told, and each key stands once. -/
def Fresh (l : List K) (x : S) : Prop := (l.map K.key).Nodup ∧ (∃ k ∈ l, k.key = x) ∧ ∀ k ∈ l, k.key = x → k.a = 0
theorem nodup_add {l : List K} (h : (l.map K.key).Nodup) (y : S) : ((addK l y).map K.key).Nodup := by
  unfold addK
  split
  · exact h
  · rename_i hn
    rw [List.map_append, List.nodup_append]
    refine ⟨h, by simp, fun a ha b hb => ?_⟩
    rintro rfl
    simp at hb
    obtain ⟨k, hk, rfl⟩ := List.mem_map.1 ha
    exact hn ((idx_mem l y).2 ⟨k, hk, by rw [hb]; rfl⟩)
theorem nodup_del {l : List K} (h : (l.map K.key).Nodup) (y : S) : ((delK l y).map K.key).Nodup := by
  rw [delK_eq]
  exact h.sublist ((delR_sub l y).map _)
theorem nodup_touch {l : List K} (h : (l.map K.key).Nodup) (y : S) : ((touchK l y).map K.key).Nodup := by rw [touchK_eq, touchR_keys]; exact h
theorem nodup_sweep {l : List K} (h : (l.map K.key).Nodup) (n : Int) : ((sweepK l n).map K.key).Nodup := by
  rw [sweepK_keys]
  exact ((rot_perm _ _).nodup_iff).2 h
theorem Fresh.add {l : List K} {x : S} (h : Fresh l x) (y : S) : Fresh (addK l y) x := by
  refine ⟨nodup_add h.1 y, ?_, ?_⟩
  · obtain ⟨k, h1, h2⟩ := h.2.1
    refine ⟨k, ?_, h2⟩
    unfold addK
    split <;> simp [h1]
  · intro k hk hx
    unfold addK at hk
    split at hk
    · exact h.2.2 k hk hx
    · rcases List.mem_append.1 hk with hk | hk
      · exact h.2.2 k hk hx
      · simp at hk; rw [hk]
theorem Fresh.del {l : List K} {x : S} (h : Fresh l x) {y : S} (hy : y ≠ x) : Fresh (delK l y) x := by
  refine ⟨nodup_del h.1 y, ?_, ?_⟩
  · obtain ⟨k, h1, h2⟩ := h.2.1
    exact ⟨k, by rw [delK_eq]; exact delR_mem l y k h1 (by rw [h2]; exact Ne.symm hy), h2⟩
  · intro k hk hx
    rw [delK_eq] at hk
    exact h.2.2 k ((delR_sub l y).subset hk) hx
theorem Fresh.touch {l : List K} {x : S} (h : Fresh l x) (y : S) : Fresh (touchK l y) x := by
  refine ⟨nodup_touch h.1 y, ?_, ?_⟩
  · have h1 : x ∈ (touchK l y).map K.key := by
      rw [touchK_eq, touchR_keys]
      obtain ⟨k, h1, h2⟩ := h.2.1
      exact List.mem_map.2 ⟨k, h1, h2⟩
    obtain ⟨k, h1, h2⟩ := List.mem_map.1 h1
    exact ⟨k, h1, h2⟩
  · intro k hk hx
    rw [touchK_eq] at hk
    obtain ⟨k', h1, h2, h3⟩ := touchR_mem l y k hk
    rw [h3]
    exact h.2.2 k' h1 (h2.symm.trans hx)
theorem Fresh.sweep {l : List K} {x : S} (h : Fresh l x) (ht : ∀ k ∈ l, k.key = x → k.t = true) (n : Int) : Fresh (sweepK l n) x := by
  refine ⟨nodup_sweep h.1 n, ?_, ?_⟩
  · have h1 : x ∈ (sweepK l n).map K.key := by
      rw [sweepK_keys]
      refine ((rot_perm _ _).mem_iff).2 ?_
      obtain ⟨k, h1, h2⟩ := h.2.1
      exact List.mem_map.2 ⟨k, h1, h2⟩
    obtain ⟨k, h1, h2⟩ := List.mem_map.1 h1
    exact ⟨k, h1, h2⟩
  · intro k hk hx
    unfold sweepK at hk
    rcases List.mem_append.1 hk with hk | hk
    · exact h.2.2 k (List.mem_of_mem_drop hk) hx
    · obtain ⟨k', h1, rfl⟩ := List.mem_map.1 hk
      rw [swK_key] at hx
      have := ht k' (List.mem_of_mem_take h1) hx
      unfold swK
      rw [if_pos this]
theorem told_not {l : List K} {x : S} (ht : ∀ k ∈ l, k.key = x → k.t = true) (n age : Int) : x ∉ sweepT l n age := by
  intro h
  unfold sweepT at h
  obtain ⟨k, h1, h2⟩ := List.mem_flatMap.1 h
  obtain ⟨rfl, h3, _⟩ := swT_mem h2
  rw [ht k (List.mem_of_mem_take h1) rfl] at h3
  cases h3
theorem Fresh.touched {l : List K} {x : S} (h : Fresh l x) : ∀ k ∈ touchK l x, k.key = x → k.t = true := by rw [touchK_eq]; exact touchR_touched l x h.1
theorem Fresh.age {l : List K} {x : S} (h : Fresh l x) : ares l x = .tuple #[.int .i64 0, .int .i64 0] := by
  have hi := (idx_mem l x).2 h.2.1
  obtain ⟨k, h1, h2⟩ := idx_get l x hi
  rw [ares_in hi h1, h.2.2 k (List.mem_of_getElem? h1) h2]
theorem Fresh.code {l : List K} {x : S} (h : Fresh l x) : ecode l x = 0 := if_pos ((idx_mem l x).2 h.2.1)
theorem Fresh.new (x : S) : Fresh (addK [] x) x := by
  refine ⟨by simp [addK, idx], ⟨⟨x.s, x.p, true, 0⟩, by simp [addK, idx], rfl⟩, fun k hk _ => ?_⟩
  simp [addK, idx] at hk
  rw [hk]
theorem touchK_length (l : List K) (x : S) : (touchK l x).length = l.length := by rw [touchK_eq]; exact touchR_length l x
theorem delK_length (l : List K) (x : S) : (delK l x).length ≤ l.length := by rw [delK_eq]; exact delR_length l x

end Go.Proofs.Ytehbonhdhblpgaa
