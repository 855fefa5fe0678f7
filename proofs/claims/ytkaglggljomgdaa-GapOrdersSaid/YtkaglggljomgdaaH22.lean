/- Parts of the proofs of layer 18 (gap): contracts of its functions, and the laws' walks. -/
import Derived.Test.YtkaglggljomgdaaProg
import Derived.WalkKit
import Derived.WalkSpells
import Derived.WalkLawsBesides
import Derived.BigQuiet
import Derived.Deep.QuietTactic
import Derived.Lib.Hide
import Derived.Deep.RegionHeld3
import Derived.Deep.DeepCutAuto
import Derived.KernelRfl
import Derived.Deep.OwnRows
import Derived.Laws.CopyOwn
import Derived.Laws.CopyRow
import Derived.StillTailTactics
import Derived.Deep.RegionLaw
import Derived.Test.YtkaglggljomgdaaH21
import Derived.Test.YtkaglggljomgdaaK4
import Derived.OwnWalk
namespace Go.Proofs.Ytkaglggljomgdaa
open Go.RowKit
set_option linter.unusedVariables false
set_option linter.unusedSimpArgs false

theorem tkn_snoc (L : List (Int × Int)) (k : Int × Int) (q : Nat) : tkn (L ++ [k]) q = (tkn L q || decide (Has q k)) := by
  unfold tkn
  rw [List.any_append, List.any_cons, List.any_nil, Bool.or_false, Bool.or_assoc]
theorem mk4096 (w : World) : (Instr.makeSlice 34 (.int .i64 4096) (.int .i64 4096)).run Try.prog w = .ok (.slice (some ⟨w.heap.size, 0, none⟩) 4096 4096) (w.alloc (.cells (madeCells #[.bool false] 4096) 4)) := run_make_row' (P := Try.prog) 34 4 (.bool false) 1 (by kernel_rfl) (by kernel_rfl) rfl .i64 .i64 4096 (by omega) (by omega) w
set_option maxRecDepth 100000 in
set_option maxHeartbeats 4000000 in
theorem RTaken_any (g : Nat) (F : List Nat) (L : List (Int × Int)) (w : World) (h : Rt w g F L) (hm : L.length ≤ 5000) (hrg : Rg 1 L 4096) :
    Calls Try.prog 14 #[.pointer (some ⟨g, 0, none⟩)] w fun e w' => e = .returned (.slice (some ⟨w.heap.size, 0, none⟩) 4096 4096) ∧ w'.rowIs w.heap.size 4 4096 (fun q => .bool (tkn L q)) ∧ Below w.heap.size w w' := by
  have hmk := mk4096 w
  have hrow := World.rowIs_made w (.bool false) 4096 4
  have hb := (Below.refl w.heap.size w).alloc (Nat.le_refl _) (Obj.cells (madeCells #[.bool false] 4096) 4)
  generalize hX : w.alloc (Obj.cells (madeCells #[.bool false] 4096) 4) = X at hrow hb hmk
  clear hX
  have HR := Lib.hid (And.intro hrow hb)
  have HM := Lib.hid h
  have HRG := Lib.hid hrg
  have f0 := hrow.frozen 0
  have x0 := hrow.cell (i := 0) (by omega)
  have hz : w.heap.size < X.heap.size := hrow.lt
  clear h hrg hrow hb
  go_enter Try.func14, Try.ntmps14
  go_upto_region 3 with fail
  have HR2 : RowKit.Hid ((X.setCell ⟨w.heap.size, 0, none⟩ (.bool true)).rowIs w.heap.size 4 4096 (fun q => .bool (tkn (L.take 0) q)) ∧ Below w.heap.size w (X.setCell ⟨w.heap.size, 0, none⟩ (.bool true))) := Lib.hid ⟨(HR.out.1.set 0 (.bool true)).congr fun q hq => by
    show (if q = 0 then Value.bool true else Value.bool false) = _
    by_cases h0 : q = 0
    · rw [if_pos h0, h0]; rfl
    · rw [if_neg h0]
      have : tkn (L.take 0) q = false := by unfold tkn; simp [h0]
      rw [this], Below.setCell HR.out.2 (Nat.le_refl _) _⟩
  clear HR f0 x0 hz hmk
  generalize X.setCell ⟨w.heap.size, 0, none⟩ (.bool true) = X2 at *
  go_wp2_with fail
  go_loopw [4, 5] (fun s _ wr => ∃ (i : Nat), i ≤ L.length ∧ s = .int .i64 (i : Nat) ∧ RowKit.Hid (wr.rowIs w.heap.size 4 4096 (fun q => .bool (tkn (L.take i) q)) ∧ Below w.heap.size w wr)) (fun s _ _ => L.length - (intOf s).toNat)
  case atStart => exact ⟨0, Nat.zero_le _, rfl, HR2⟩
  case round =>
    obtain ⟨i, hi, rfl, HL⟩ := hrel
    obtain ⟨al, cl, c0w, hT⟩ := HM.out.cells
    have c0 := cell_keep HL.out.2 c0w
    by_cases hil : i < L.length
    · obtain ⟨bl, cl2, hv, hbl, hcell⟩ := (hT.below HL.out.2).read (ne_nil_of_lt hil)
      cases hv
      have hk := List.getElem?_eq_getElem hil
      generalize L[i] = k at hk
      obtain ⟨k1, k2⟩ := k
      obtain ⟨e0, e1⟩ := hcell i _ hk
      have hkr := HRG.out.mem _ (List.mem_of_getElem? hk)
      dsimp only at e0 e1 hkr
      have hiI : ((i : Nat) : Int) < ((L.length : Nat) : Int) := by omega
      have HTK := Lib.hid (And.intro (take_succ' L i _ hk) hk)
      clear hcell hk hbl hT c0w e1
      go_upto_region 7 with fail
      clear c0 e0
      go_loopw [5] (fun s wx => ∃ (p : Nat), k1 ≤ (p : Int) ∧ (p : Int) ≤ k2 ∧ s = .int .i64 (p : Nat) ∧ RowKit.Hid (wx.rowIs w.heap.size 4 4096 (fun q => .bool (tkn (L.take i) q || decide (k1 ≤ (q : Int) ∧ (q : Int) < (p : Int)))) ∧ Below w.heap.size w wx)) (fun s _ => (k2 - intOf s).toNat)
      case atStart => exact ⟨k1.toNat, by omega, by omega, by rw [Int.toNat_of_nonneg (by omega)], Lib.hid ⟨HL.out.1.congr fun q hq => by rw [decide_eq_false (by omega), Bool.or_false], HL.out.2⟩⟩
      case round =>
        obtain ⟨p, hp1, hp2, rfl, HP⟩ := hrel
        obtain ⟨al, cl, c0w, hT⟩ := HM.out.cells
        have c0 := cell_keep HP.out.2 c0w
        obtain ⟨bl, cl2, hv, hbl, hcell⟩ := (hT.below HP.out.2).read (ne_nil_of_lt hil)
        cases hv
        obtain ⟨e0, e1⟩ := hcell i _ HTK.out.2
        dsimp only at e0 e1
        clear hcell hT c0w hbl
        by_cases hpk : (p : Int) < k2
        · have f1 := HP.out.1.frozen p
          have x1 := HP.out.1.cell (i := p) (by omega)
          have hp3 : (p : Int) < 4096 := by omega
          have hp4 : p < 4096 := by omega
          go_wp2_with fail
          refine ⟨⟨p + 1, by omega, by omega, by simp, Lib.hid ⟨(HP.out.1.set p (.bool true)).congr fun q hq => ?_, Below.setCell HP.out.2 (Nat.le_refl _) _⟩⟩, by simp [intOf]; omega⟩
          show (if q = p then Value.bool true else Value.bool (tkn (L.take i) q || decide (k1 ≤ (q : Int) ∧ (q : Int) < (p : Int)))) = _
          by_cases hq0 : q = p
          · rw [if_pos hq0, decide_eq_true (show k1 ≤ (q : Int) ∧ (q : Int) < ((p + 1 : Nat) : Int) by omega), Bool.or_true]
          · rw [if_neg hq0]
            have : decide (k1 ≤ (q : Int) ∧ (q : Int) < (p : Int)) = decide (k1 ≤ (q : Int) ∧ (q : Int) < ((p + 1 : Nat) : Int)) := by
              apply decide_eq_decide.2
              omega
            rw [this]
        · have hpe : (p : Int) = k2 := by omega
          have HP2 : RowKit.Hid (wr.rowIs w.heap.size 4 4096 (fun q => .bool (tkn (L.take (i + 1)) q)) ∧ Below w.heap.size w wr) := Lib.hid ⟨HP.out.1.congr fun q hq => by
            rw [HTK.out.1, tkn_snoc]
            have : decide (Has (q : Nat) (k1, k2)) = decide (k1 ≤ (q : Int) ∧ (q : Int) < (p : Int)) := by
              apply decide_eq_decide.2
              unfold Has
              simp only
              omega
            rw [this], HP.out.2⟩
          clear HP
          go_wp2_with fail
          exact ⟨⟨i + 1, hil, by simp, HP2⟩, by simp [intOf]; omega⟩
    · have hil2 : i = L.length := by omega
      have HF := HL.out
      rw [hil2, List.take_length] at HF
      have HF2 := Lib.hid HF
      clear HF c0w hT
      go_wp2_with fail
      go_ret
      exact ⟨rfl, HF2.out.1, HF2.out.2⟩

end Go.Proofs.Ytkaglggljomgdaa
