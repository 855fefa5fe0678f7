/- Parts of the proofs of layer 2 (ram): contracts of its functions, and the laws' walks. -/
import Derived.Test.YtmjkcmpanoepgaaProg
import Derived.WalkKit
import Derived.WalkSpells
import Derived.WalkLawsBesides
import Derived.BigQuiet
import Derived.Deep.QuietTactic
import Derived.Lib.Hide
import Derived.Deep.RegionHeld3
import Derived.Deep.DeepCutAuto
import Derived.KernelRfl
import Derived.Deep.OwnRows
import Derived.Laws.CopyOwn
import Derived.Laws.CopyRow
import Derived.StillTailTactics
import Derived.Laws.Tables
import Derived.Test.YtmjkcmpanoepgaaM4
namespace Go.Proofs.Ytmjkcmpanoepgaa
open Go.RowKit
set_option linter.unusedVariables false
set_option linter.unusedSimpArgs false

/-- len bytes from lo on lie at tt. -/
def cpy (f : Nat → Int) (tt lo len : Nat) (i : Nat) : Int := if tt ≤ i ∧ i < tt + len then f (lo + (i - tt)) else f i
theorem One.setRow (w : World) (B : Nat) (c : Array Value) : One B w (w.setRow B c) := ⟨rfl, rfl, rfl, size_setRow _ _ _, fun k hk => setRow_other _ _ _ _ hk⟩
def cs (f : Nat → Int) (lo len : Nat) : List Value := (List.range len).map fun i => .int .u8 (f (lo + i))
theorem cs_length (f : Nat → Int) (lo len : Nat) : (cs f lo len).length = len := by simp [cs]
theorem cs_get (f : Nat → Int) (lo len i : Nat) (hi : i < len) : (cs f lo len)[i]? = some (.int .u8 (f (lo + i))) := by simp [cs, hi]
theorem copied {w : World} {g b n : Nat} {f : Nat → Int} (h : Mem w g b n f) (tt lo len cap1 cap2 : Nat) (h1 : tt + len ≤ n) (h2 : lo + len ≤ n) :
    ∃ W2, (∀ ty, (Builtin.copy_ #[57, 57] ty #[.slice (some ⟨b, tt, none⟩) len cap1, .slice (some ⟨b, lo, none⟩) len cap2]).run Try.prog w = .ok (.int .i64 len) W2) ∧ One b w W2 ∧ Mem W2 g b n (cpy f tt lo len) := by
  obtain ⟨k1, ⟨cur, k2, ks, kc⟩, k3, k4, k5, k6, k7⟩ := h
  have hrow : w.rowIs b 5 n (fun i => .int .u8 (f i)) := ⟨cur, k2, ks, kc⟩
  have hrun := fun ty => run_copy_row (P := Try.prog) w 57 57 ty 5 b tt len cap1 ⟨b, lo, none⟩ len cap2 cur 5 (cs f lo len) (by kernel_rfl) (by kernel_rfl) k2
    (by rw [cs_length]; exact (Nat.min_self len).symm)
    (fun j v hj => by
      have hl : j < len := by
        have := (List.getElem?_eq_some_iff.1 hj).1
        rwa [cs_length] at this
      rw [cs_get f lo len j hl] at hj
      cases hj
      have e : (⟨b, lo, none⟩ : Addr).add j = ⟨b, lo + j, none⟩ := by
        unfold Addr.add
        split
        · rename_i h; subst h; rfl
        · rfl
      rw [e]
      exact hrow.cell (i := lo + j) (by omega))
    (by rw [cs_length, ks]; exact h1)
    (fun v hv => by
      simp only [cs, List.mem_map] at hv
      obtain ⟨i, _, rfl⟩ := hv
      rfl)
  refine ⟨_, fun ty => (hrun ty).trans (by rw [cs_length] <;> rfl), One.setRow _ _ _, ?_, ?_, k3, k4, k5, k6, fun i => ?_⟩
  · rw [← k1]; exact setRow_other _ _ _ _ k3
  · refine ⟨_, setRow_heap w b cur _ 5 (0, 0) k2, ?_, fun i hi => ?_⟩
    · simp [cs_length, ks]; omega
    · have kl : cur.toList.length = n := ks
      have kc2 : ∀ j, j < n → cur.toList[j]? = some (.int .u8 (f j)) := fun j hj => by rw [Array.getElem?_toList]; exact kc j hj
      show (cur.toList.take tt ++ cs f lo len ++ cur.toList.drop (tt + len)).toArray[i]? = some (.int .u8 (cpy f tt lo len i))
      rw [List.getElem?_toArray]
      unfold cpy
      rcases Nat.lt_or_ge i tt with a1 | a1
      · rw [if_neg (by omega), List.getElem?_append_left (by simp [cs_length, kl]; omega), List.getElem?_append_left (by simp [kl]; omega), List.getElem?_take, if_pos a1]
        exact kc2 i hi
      · rcases Nat.lt_or_ge i (tt + len) with a2 | a2
        · rw [if_pos ⟨a1, a2⟩, List.getElem?_append_left (by simp [cs_length, kl]; omega), List.getElem?_append_right (by simp [kl]; omega)]
          have e : i - (List.take tt cur.toList).length = i - tt := by simp [kl]; omega
          rw [e]
          exact cs_get f lo len (i - tt) (by omega)
        · rw [if_neg (by omega), List.getElem?_append_right (by simp [cs_length, kl]; omega)]
          have e : i - (List.take tt cur.toList ++ cs f lo len).length = i - (tt + len) := by simp [cs_length, kl]; omega
          rw [e, List.getElem?_drop, show tt + len + (i - (tt + len)) = i from by omega]
          exact kc2 i hi
  · unfold cpy
    split
    · exact k7 _
    · exact k7 i
theorem copied_none (w : World) (ty : TypeId) (b o len cap : Nat) : (Builtin.copy_ #[57, 57] ty #[.slice (some ⟨b, o, none⟩) len cap, .slice none 0 0]).run Try.prog w = .ok (.int .i64 0) w := by
  kernel_rfl
set_option maxHeartbeats 2000000 in
theorem copy_any (g b n : Nat) (f : Nat → Int) (tt lo m : Nat) (w : World) (h : Mem w g b n f) (h0 : 1 ≤ m) (h1 : tt + m ≤ n / 64) (h2 : lo + m ≤ n / 64) : Calls Try.prog 21 #[.pointer (some ⟨g, 0, none⟩), .int .i64 tt, .int .i64 lo, .int .i64 m] w fun e w' => e = .returned (.int .i64 0) ∧ One b w w' ∧ Mem w' g b n (cpy f (tt * 64) (lo * 64) (m * 64)) := by
  obtain ⟨W2, hc, h3, h4⟩ := copied h (tt * 64) (lo * 64) (m * 64) (n - tt * 64) (n - lo * 64) (by omega) (by omega)
  have H := Lib.hid h
  have H3 := Lib.hid h3
  have H4 := Lib.hid h4
  clear h h3 h4
  go_enter Try.func21, Try.ntmps21
  go_wp2_with fail
  refine (frames_ok g b n f tt m _ H.out h0 h1).mono ?_
  rintro e _ ⟨rfl, rfl⟩
  go_wp2_with fail
  refine (frames_ok g b n f lo m _ H.out h0 h2).mono ?_
  rintro e _ ⟨rfl, rfl⟩
  go_wp2_with fail
  go_ret
  exact ⟨rfl, H3.out, H4.out⟩
/-- What is wrong with a copy. -/
def cpe (n : Nat) (tt lo m : Int) : Int := if frm n tt m = 0 then frm n lo m else frm n tt m
set_option maxHeartbeats 2000000 in
theorem copy_no (g b n : Nat) (f : Nat → Int) (tt lo m : Int) (w : World) (h : Mem w g b n f) (hr : -9223372036854775808 ≤ tt ∧ tt < 9223372036854775808) (hr2 : -9223372036854775808 ≤ lo ∧ lo < 9223372036854775808) (h0 : cpe n tt lo m ≠ 0) : Calls Try.prog 21 #[.pointer (some ⟨g, 0, none⟩), .int .i64 tt, .int .i64 lo, .int .i64 m] w fun e w' => e = .returned (.int .i64 (cpe n tt lo m)) ∧ w = w' := by
  have H := Lib.hid h
  clear h
  unfold cpe at h0 ⊢
  by_cases ht : frm n tt m = 0
  · rw [if_pos ht] at h0 ⊢
    obtain ⟨m1, t0, t1⟩ := frm_ok ht
    obtain ⟨M, rfl⟩ := Int.eq_ofNat_of_zero_le (show 0 ≤ m by omega)
    obtain ⟨T, rfl⟩ := Int.eq_ofNat_of_zero_le t0
    have hc := fun ty => copied_none w ty b (T * 64) (M * 64) (n - T * 64)
    go_enter Try.func21, Try.ntmps21
    go_wp2_with fail
    refine (frames_ok g b n f T M _ H.out (by omega) (by omega)).mono ?_
    rintro e _ ⟨rfl, rfl⟩
    go_wp2_with fail
    refine (frames_no g b n f lo M _ H.out hr2 h0).mono ?_
    rintro e _ ⟨rfl, rfl⟩
    go_wp2_with fail
    go_ret
    exact ⟨rfl, rfl⟩
  · rw [if_neg ht] at h0 ⊢
    have d0 : (frm n tt m != 0) = true := bne_iff_ne.2 ht
    go_enter Try.func21, Try.ntmps21
    go_wp2_with fail
    refine (frames_no g b n f tt m _ H.out hr ht).mono ?_
    rintro e _ ⟨rfl, rfl⟩
    go_wp2_with fail
    go_ret
    exact ⟨rfl, rfl⟩

end Go.Proofs.Ytmjkcmpanoepgaa
