/- Parts of the proofs of layer 2 (ram): contracts of its functions, and the laws' walks. -/
import Derived.Test.YtmjkcmpanoepgaaProg
import Derived.WalkKit
import Derived.WalkSpells
import Derived.WalkLawsBesides
import Derived.BigQuiet
import Derived.Deep.QuietTactic
import Derived.Lib.Hide
import Derived.Deep.RegionHeld3
import Derived.Deep.DeepCutAuto
import Derived.KernelRfl
import Derived.Deep.OwnRows
import Derived.Laws.CopyOwn
import Derived.Laws.CopyRow
import Derived.StillTailTactics
import Derived.Lib.SliceRun
import Derived.Lib.LazyBuf
import Derived.Test.YtmjkcmpanoepgaaM3
namespace Go.Proofs.Ytmjkcmpanoepgaa
open Go.RowKit
set_option linter.unusedVariables false
set_option linter.unusedSimpArgs false

/-- Bytes from lo on, hi of them, are 0. -/
def clr (f : Nat → Int) (lo len : Nat) (i : Nat) : Int := if lo ≤ i ∧ i < lo + len then 0 else f i
theorem One.setCells (B : Nat) : ∀ (vs : List Value) (o : Nat) (w : World), One B w (w.setCells B o vs)
  | [], o, w => One.refl _ _
  | v :: vs, o, w => (One.setCell w B o v).trans (One.setCells B vs (o + 1) _)
theorem Mem.zero {w : World} {g b n : Nat} {f : Nat → Int} (h : Mem w g b n f) (o len : Nat) : Mem (w.setCells b o (List.replicate len (.int .u8 0))) g b n (clr f o len) := by
  obtain ⟨h1, h2, h3, h4, h5, h6, h7⟩ := h
  refine ⟨?_, (rowIs_setCells _ _ _ _ h2).congr fun i hi => ?_, h3, h4, h5, h6, fun i => ?_⟩
  · rw [← h1]; exact (One.setCells b _ o w).2.2.2.2 g h3
  · simp only [List.length_replicate]
    unfold clr
    split
    · rename_i h
      rw [List.getElem?_replicate, if_pos (by omega)]
      rfl
    · rfl
  · unfold clr
    split
    · omega
    · exact h7 i
set_option maxHeartbeats 2000000 in
theorem zero_any (g b n : Nat) (f : Nat → Int) (fr m : Nat) (w : World) (h : Mem w g b n f) (h0 : 1 ≤ m) (h1 : fr + m ≤ n / 64) : Calls Try.prog 20 #[.pointer (some ⟨g, 0, none⟩), .int .i64 fr, .int .i64 m] w fun e w' => e = .returned (.int .i64 0) ∧ One b w w' ∧ Mem w' g b n (clr f (fr * 64) (m * 64)) := by
  have H := Lib.hid h
  have hrow := h.2.1
  have hc := Lib.run_clear_slice (P := Try.prog) w 57 5 0 (.int .u8 0) (by kernel_rfl) (fun _ => by kernel_rfl) rfl rfl b (fr * 64) (m * 64) (n - fr * 64) (by omega) (fun j hj => by rw [hrow.cell (by omega)]; rfl) (fun j hj => hrow.frozen _)
  clear hrow
  have H2 := Lib.hid (h.zero (fr * 64) (m * 64))
  have H3 := Lib.hid (One.setCells b (List.replicate (m * 64) (.int .u8 0)) (fr * 64) w)
  generalize hW : w.setCells b (fr * 64) (List.replicate (m * 64) (.int .u8 0)) = W2 at hc H2 H3
  clear hW h
  go_enter Try.func20, Try.ntmps20
  go_wp2_with fail
  refine (frames_ok g b n f fr m _ H.out h0 h1).mono ?_
  rintro e _ ⟨rfl, rfl⟩
  go_wp2_with fail
  go_ret
  exact ⟨rfl, H3.out, H2.out⟩
set_option maxHeartbeats 2000000 in
theorem zero_no (g b n : Nat) (f : Nat → Int) (fr m : Int) (w : World) (h : Mem w g b n f) (hr : -9223372036854775808 ≤ fr ∧ fr < 9223372036854775808) (h0 : frm n fr m ≠ 0) : Calls Try.prog 20 #[.pointer (some ⟨g, 0, none⟩), .int .i64 fr, .int .i64 m] w fun e w' => e = .returned (.int .i64 (frm n fr m)) ∧ w = w' := by
  have H := Lib.hid h
  clear h
  have hc : ∀ w, (Builtin.clear_ #[57] 0 #[.slice none 0 0]).run Try.prog w = .ok (.tuple #[]) w := fun _ => by kernel_rfl
  go_enter Try.func20, Try.ntmps20
  go_wp2_with fail
  refine (frames_no g b n f fr m _ H.out hr h0).mono ?_
  rintro e _ ⟨rfl, rfl⟩
  go_wp2_with fail
  go_ret
  exact ⟨rfl, rfl⟩

end Go.Proofs.Ytmjkcmpanoepgaa
