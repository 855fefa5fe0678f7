/- Parts of the proofs of layer 18 (gap): contracts of its functions, and the laws' walks. -/
import Derived.Test.YtkaglggljomgdaaProg
import Derived.WalkKit
import Derived.WalkSpells
import Derived.WalkLawsBesides
import Derived.BigQuiet
import Derived.Deep.QuietTactic
import Derived.Lib.Hide
import Derived.Deep.RegionHeld3
import Derived.Deep.DeepCutAuto
import Derived.KernelRfl
import Derived.Deep.OwnRows
import Derived.Laws.CopyOwn
import Derived.Laws.CopyRow
import Derived.StillTailTactics
import Derived.Deep.RegionLaw
import Derived.Test.YtkaglggljomgdaaH22
import Derived.OwnWalk
namespace Go.Proofs.Ytkaglggljomgdaa
open Go.RowKit
set_option linter.unusedVariables false
set_option linter.unusedSimpArgs false

set_option maxRecDepth 100000 in
set_option maxHeartbeats 4000000 in
theorem RGreatest_any (g : Nat) (F : List Nat) (L : List (Int × Int)) (w : World) (h : Rt w g F L) (hm : L.length ≤ 5000) (hrg : Rg 1 L 4096) :
    Calls Try.prog 25 #[.pointer (some ⟨g, 0, none⟩)] w fun e w' => e = .returned (.int .i64 (gTot 1 L)) ∧ Below w.heap.size w w' := by
  have HH := Lib.hid (RTaken_any g F L w h hm hrg)
  have HRG := Lib.hid hrg
  clear h hrg
  go_enter Try.func25, Try.ntmps25
  go_wp2_with fail
  refine HH.out.mono ?_
  rintro ex w1 ⟨rfl, hrow, hb⟩
  have HR := Lib.hid (And.intro hrow hb)
  clear hrow hb HH
  go_wp2_with fail
  go_loopw [4, 5, 6] (fun b n s wr => ∃ (p : Nat) (best r : Int), 1 ≤ p ∧ p ≤ 4096 ∧ s = .int .i64 (p : Nat) ∧ b = .int .i64 best ∧ n = .int .i64 r ∧ wr = w1 ∧ 0 ≤ r ∧ r ≤ 4096 ∧ RowKit.Hid (Best (tkn L) p best r)) (fun _ _ s _ => 4096 - (intOf s).toNat)
  case atStart => exact ⟨1, 0, 0, by omega, by omega, rfl, rfl, rfl, rfl, by omega, by omega, Lib.hid (Best.zero _)⟩
  case round =>
    obtain ⟨p, best, r, hp1, hp2, rfl, rfl, rfl, rfl, hr0, hr1, HB⟩ := hrel
    by_cases hp : p < 4096
    · have hpI : (p : Int) < 4096 := by omega
      have c1 := HR.out.1.cell (i := p) hp
      cases ht : tkn L p with
      | true =>
        rw [ht] at c1
        have HB2 := Lib.hid (HB.out.taken hp1 ht)
        have hmx : (if best < 0 then 0 else best) = max best 0 := by split <;> omega
        generalize max best 0 = mb at *
        clear ht HB
        go_wp2_with fail
        exact ⟨⟨p + 1, mb, 0, by omega, by omega, by simp, rfl, rfl, (by first | rfl | trivial), by omega, by omega, HB2⟩, by simp [intOf]; omega⟩
      | false =>
        rw [ht] at c1
        have HB2 := Lib.hid (HB.out.free hp1 ht)
        have hrp := HB.out.2.2.1
        have hmx : (if best < r + 1 then r + 1 else best) = max best (r + 1) := by split <;> omega
        generalize max best (r + 1) = mb at *
        clear ht HB
        go_wp2_with fail
        exact ⟨⟨p + 1, mb, r + 1, by omega, by omega, by simp, rfl, rfl, (by first | rfl | trivial), by omega, by omega, HB2⟩, by simp [intOf]; omega⟩
    · obtain rfl : p = 4096 := by omega
      have HG := Lib.hid (HB.out.gTot HRG.out)
      clear HB
      go_wp2_with fail
      go_ret
      exact ⟨by rw [HG.out]; rfl, HR.out.2⟩
theorem mk4097 (w : World) : (Instr.makeSlice 65 (.int .i64 4097) (.int .i64 4097)).run Try.prog w = .ok (.slice (some ⟨w.heap.size, 0, none⟩) 4097 4097) (w.alloc (.cells (madeCells #[.int .i64 0] 4097) 3)) := run_make_row' (P := Try.prog) 65 3 (.int .i64 0) 8 (by kernel_rfl) (by kernel_rfl) rfl .i64 .i64 4097 (by omega) (by omega) w
set_option maxRecDepth 100000 in
set_option maxHeartbeats 8000000 in
theorem RRoom_any (low n o : Int) (g : Nat) (F : List Nat) (L : List (Int × Int)) (w : World) (h : Rt w g F L) (hm : L.length ≤ 5000) (hrg : Rg 1 L 4096) :
    Calls Try.prog 13 #[.pointer (some ⟨g, 0, none⟩), .int .i64 low, .int .i64 n, .int .i64 o] w fun e w' => e = .returned (.tuple #[.int .i64 (roomV low n o L).1, .int .i64 (roomV low n o L).2]) ∧ Below w.heap.size w w' := by
  have HH := Lib.hid (RTaken_any g F L w h hm hrg)
  have HRG := Lib.hid hrg
  clear h hrg
  by_cases e1 : n < 1
  · have HV := Lib.hid (show roomV low n o L = (0, 2) from if_pos (.inl e1))
    go_enter Try.func13, Try.ntmps13
    go_wp2_with fail
    refine bodyPost_ret (v := .tuple #[.int .i64 0, .int .i64 2]) (by simp [results, Try.results13, go_sem]) rfl ⟨by rw [HV.out], Below.refl _ _⟩
  · by_cases e2 : o < 0
    · have HV := Lib.hid (show roomV low n o L = (0, 2) from if_pos (.inr (.inl e2)))
      go_enter Try.func13, Try.ntmps13
      go_wp2_with fail
      refine bodyPost_ret (v := .tuple #[.int .i64 0, .int .i64 2]) (by simp [results, Try.results13, go_sem]) rfl ⟨by rw [HV.out], Below.refl _ _⟩
    · by_cases e3 : 8 < o
      · have HV := Lib.hid (show roomV low n o L = (0, 2) from if_pos (.inr (.inr e3)))
        go_enter Try.func13, Try.ntmps13
        go_wp2_with fail
        refine bodyPost_ret (v := .tuple #[.int .i64 0, .int .i64 2]) (by simp [results, Try.results13, go_sem]) rfl ⟨by rw [HV.out], Below.refl _ _⟩
      · have hz := two_size o (by omega)
        have htwo : G.two o = 2 ^ o.toNat := rfl
        go_enter Try.func13, Try.ntmps13
        go_wp2_with fail
        refine HH.out.mono ?_
        rintro ex w1 ⟨rfl, hrow, hb⟩
        have HR := Lib.hid (And.intro hrow hb)
        have hsz1 := hrow.lt
        clear hrow hb HH
        go_wp2_with fail
        go_loopw [11, 12] (fun m s wr => ∃ (i : Nat), (i : Int) ≤ o ∧ s = .int .i64 (i : Nat) ∧ m = .int .i64 (2 ^ i) ∧ wr = w1) (fun _ s _ => 9 - (intOf s).toNat)
        case atStart => exact ⟨0, by omega, rfl, rfl, rfl⟩
        case round =>
          obtain ⟨i, hi, rfl, rfl, rfl⟩ := hrel
          have hpw := G.pow_small i (by omega)
          by_cases hio : (i : Int) < o
          · go_wp2_with fail
            exact ⟨⟨i + 1, by omega, by simp, rfl, (by first | rfl | trivial)⟩, by simp [intOf]; omega⟩
          · generalize hk : (2 : Int) ^ i = k at *
            have hko : G.two o = k := by rw [htwo, ← hk]; congr 1; omega
            rw [hko] at hz
            have HKO := Lib.hid hko
            have hmk := mk4097 wr
            have hrow := World.rowIs_made wr (.int .i64 0) 4097 3
            have hb := (Below.refl wr.heap.size wr).alloc (Nat.le_refl _) (Obj.cells (madeCells #[.int .i64 0] 4097) 3)
            generalize hX : wr.alloc (Obj.cells (madeCells #[.int .i64 0] 4097) 3) = X at hrow hb hmk
            clear hX
            have HX := Lib.hid (show X.rowIs wr.heap.size 3 4097 (fun q => .int .i64 (if 4096 - 0 ≤ q then (runF (tkn L) (4096 - q) : Nat) else 0)) ∧ X.rowIs w.heap.size 4 4096 (fun q => .bool (tkn L q)) ∧ Below w.heap.size w X from ⟨hrow.congr fun q hq => by
              split
              · rw [show 4096 - q = 0 by omega]; rfl
              · rfl, HR.out.1.of_block (hb.block _ hsz1), HR.out.2.trans (hb.mono HR.out.2.size)⟩)
            have hBne : wr.heap.size ≠ w.heap.size := by omega
            generalize hB : wr.heap.size = B at *
            clear hrow hb hB hko htwo hk hpw HR
            go_wp2_with fail
            clear hmk
            go_loopw [14] (fun s wx => ∃ (d : Nat), d ≤ 4096 ∧ s = .int .i64 (4095 - (d : Nat)) ∧ RowKit.Hid (wx.rowIs B 3 4097 (fun q => .int .i64 (if 4096 - d ≤ q then (runF (tkn L) (4096 - q) : Nat) else 0)) ∧ wx.rowIs w.heap.size 4 4096 (fun q => .bool (tkn L q)) ∧ Below w.heap.size w wx)) (fun s _ => (intOf s + 1).toNat)
            case atStart => exact ⟨0, by omega, rfl, HX⟩
            case round =>
              obtain ⟨d, hd, rfl, HD⟩ := hrel
              by_cases hdl : d < 4096
              · obtain ⟨p, hp⟩ : ∃ p : Nat, 4095 - d = p := ⟨_, rfl⟩
                have hpe : (4095 : Int) - (d : Nat) = (p : Nat) := by omega
                have hp1 : p < 4096 := by omega
                have hp2 : (p : Int) < 4096 := by omega
                have hp3 : (p : Int) + 1 < 4097 := by omega
                have hp4 : (0 : Int) ≤ (p : Nat) := by omega
                have c1 := HD.out.2.1.cell (i := p) hp1
                have r1 := HD.out.1.cell (i := p) (by omega)
                have r2 := HD.out.1.cell (i := p + 1) (by omega)
                have f2 := HD.out.1.frozen p
                rw [if_pos (by omega), show 4096 - (p + 1) = d by omega] at r2
                rw [if_neg (by omega)] at r1
                have hrl := runF_le (tkn L) d
                have HRF := Lib.hid (show runF (tkn L) (d + 1) = if tkn L p = true then 0 else runF (tkn L) d + 1 from by rw [runF, show 4096 - (d + 1) = p by omega])
                rw [hpe]
                have hstep : ((p : Nat) : Int) - 1 = 4095 - ((d + 1 : Nat) : Int) := by omega
                have HST := Lib.hid hstep
                clear hstep hpe
                cases ht : tkn L p with
                | true =>
                  rw [ht] at c1 HRF
                  have HD2 : RowKit.Hid (wr.rowIs B 3 4097 (fun q => .int .i64 (if 4096 - (d + 1) ≤ q then (runF (tkn L) (4096 - q) : Nat) else 0)) ∧ wr.rowIs w.heap.size 4 4096 (fun q => .bool (tkn L q)) ∧ Below w.heap.size w wr) := Lib.hid ⟨HD.out.1.congr fun q hq => by
                    by_cases hq1 : q = p
                    · subst hq1
                      rw [if_neg (by omega), if_pos (by omega), show 4096 - q = d + 1 by omega, HRF.out]; rfl
                    · by_cases hq2 : 4096 - d ≤ q
                      · rw [if_pos hq2, if_pos (by omega)]
                      · rw [if_neg hq2, if_neg (by omega)], HD.out.2⟩
                  clear HD ht
                  go_wp2_with fail
                  exact ⟨⟨d + 1, by omega, by rw [← HST.out], HD2⟩, by first | (simp [intOf]; done) | (simp [intOf]; omega)⟩
                | false =>
                  rw [ht] at c1 HRF
                  have HD2 : RowKit.Hid ((wr.setCell ⟨B, p, none⟩ (.int .i64 ((runF (tkn L) d : Nat) + 1))).rowIs B 3 4097 (fun q => .int .i64 (if 4096 - (d + 1) ≤ q then (runF (tkn L) (4096 - q) : Nat) else 0)) ∧ (wr.setCell ⟨B, p, none⟩ (.int .i64 ((runF (tkn L) d : Nat) + 1))).rowIs w.heap.size 4 4096 (fun q => .bool (tkn L q)) ∧ Below w.heap.size w (wr.setCell ⟨B, p, none⟩ (.int .i64 ((runF (tkn L) d : Nat) + 1)))) := Lib.hid ⟨(HD.out.1.set p (.int .i64 ((runF (tkn L) d : Nat) + 1))).congr fun q hq => by
                    show (if q = p then Value.int .i64 ((runF (tkn L) d : Nat) + 1) else Value.int .i64 (if 4096 - d ≤ q then (runF (tkn L) (4096 - q) : Nat) else 0)) = _
                    by_cases hq1 : q = p
                    · subst hq1
                      rw [if_pos rfl, if_pos (by omega), show 4096 - q = d + 1 by omega, HRF.out]; rfl
                    · rw [if_neg hq1]
                      by_cases hq2 : 4096 - d ≤ q
                      · rw [if_pos hq2, if_pos (by omega)]
                      · rw [if_neg hq2, if_neg (by omega)], HD.out.2.1.setOther (fun e => hBne e.symm) _, Below.setCell HD.out.2.2 (show w.heap.size ≤ B by omega) _⟩
                  generalize runF (tkn L) d = rd at *
                  clear HD ht
                  go_wp2_with fail
                  exact ⟨⟨d + 1, by omega, by rw [← HST.out], HD2⟩, by first | (simp [intOf]; done) | (simp [intOf]; omega)⟩
              · obtain rfl : d = 4096 := by omega
                have HQ : RowKit.Hid (wr.rowIs B 3 4097 (fun q => .int .i64 (rv L q : Nat)) ∧ Below w.heap.size w wr) := Lib.hid ⟨HD.out.1.congr fun q hq => by rw [if_pos (by omega)]; rfl, HD.out.2.2⟩
                clear HD HX
                have hk0 : ¬ k = 0 := by omega
                go_wp2_with fail
                go_loopw [15] (fun s wx => ∃ (p : Nat), 1 ≤ p ∧ p ≤ 4096 ∧ s = .int .i64 (p : Nat) ∧ wx = wr ∧ RowKit.Hid (∀ q, 1 ≤ q → q < p → ¬ Hit L low n k q)) (fun s _ => 4096 - (intOf s).toNat)
                case atStart => exact ⟨1, by omega, by omega, rfl, rfl, Lib.hid fun q h1 h2 => by omega⟩
                case round =>
                  obtain ⟨p, hp1, hp2, rfl, rfl, HN⟩ := hrel
                  by_cases hp : p < 4096
                  · have hpI : (p : Int) < 4096 := by omega
                    have hp3 : (p : Int) < 4097 := by omega
                    have c1 := HQ.out.1.cell (i := p) (by omega)
                    have htm : (p : Int).tmod k = (p : Int) % k := Int.tmod_eq_emod_of_nonneg (by omega)
                    have HNX : RowKit.Hid (¬ Hit L low n k p → ∀ q, 1 ≤ q → q < p + 1 → ¬ Hit L low n k q) := Lib.hid fun hh q h1 h2 => by
                      by_cases hq : q = p
                      · rw [hq]; exact hh
                      · exact HN.out q h1 (by omega)
                    obtain ⟨RV, hRV⟩ : ∃ RV : Nat, rv L p = RV := ⟨_, rfl⟩
                    rw [hRV] at c1
                    have HRV := Lib.hid hRV
                    clear hRV
                    by_cases h1 : low ≤ (p : Int)
                    · by_cases h2 : (p : Int) % k = 0
                      · by_cases h3 : n ≤ (RV : Nat)
                        · have HV := Lib.hid (roomV_hit (p := p) HRG.out (show 1 ≤ n by omega) (show 0 ≤ o ∧ o ≤ 8 by omega) (by rw [HKO.out]; exact hz.1) (by omega) hp1 (by rw [HKO.out]; exact ⟨h1, h2, by rw [HRV.out]; exact h3⟩) (by rw [HKO.out]; exact HN.out))
                          go_wp2_with fail
                          refine bodyPost_ret (v := .tuple #[.int .i64 (p : Nat), .int .i64 0]) (by simp [results, Try.results13, go_sem]) rfl ⟨by rw [HV.out], HQ.out.2⟩
                        · have HN2 := Lib.hid (HNX.out fun hh => h3 (by have := hh.2.2; rw [HRV.out] at this; exact this))
                          clear HNX
                          go_wp2_with fail
                          exact ⟨⟨p + 1, by omega, by omega, by simp, (by first | rfl | trivial), HN2⟩, by simp [intOf]; omega⟩
                      · have HN2 := Lib.hid (HNX.out fun hh => h2 hh.2.1)
                        have h2b : ((p : Int) % k == 0) = false := by rw [beq_eq_false_iff_ne]; exact h2
                        clear HNX
                        go_wp2_with fail
                        exact ⟨⟨p + 1, by omega, by omega, by simp, (by first | rfl | trivial), HN2⟩, by simp [intOf]; omega⟩
                    · have HN2 := Lib.hid (HNX.out fun hh => h1 hh.1)
                      clear HNX
                      go_wp2_with fail
                      exact ⟨⟨p + 1, by omega, by omega, by simp, (by first | rfl | trivial), HN2⟩, by simp [intOf]; omega⟩
                  · obtain rfl : p = 4096 := by omega
                    have HV := Lib.hid (roomV_none HRG.out (show 1 ≤ n by omega) (show 0 ≤ o ∧ o ≤ 8 by omega) (by rw [HKO.out]; exact hz.1) (low := low) (by rw [HKO.out]; exact HN.out))
                    clear HN
                    go_wp2_with fail
                    refine bodyPost_ret (v := .tuple #[.int .i64 0, .int .i64 13]) (by simp [results, Try.results13, go_sem]) rfl ⟨by rw [HV.out], HQ.out.2⟩

end Go.Proofs.Ytkaglggljomgdaa
