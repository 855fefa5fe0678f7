/- Parts of the proofs of layer 25 (clock): contracts of its functions, and the laws' walks. -/
import Derived.Test.YtehbonhdhblpgaaProg
import Derived.WalkKit
import Derived.WalkSpells
import Derived.WalkLawsBesides
import Derived.BigQuiet
import Derived.Deep.QuietTactic
import Derived.Lib.Hide
import Derived.Deep.RegionHeld3
import Derived.Deep.DeepCutAuto
import Derived.KernelRfl
import Derived.Deep.OwnRows
import Derived.Laws.CopyOwn
import Derived.Laws.CopyRow
import Derived.StillTailTactics
import Derived.Deep.RegionLaw
import Derived.Test.YtehbonhdhblpgaaC16
namespace Go.Proofs.Ytehbonhdhblpgaa
open Go.RowKit
set_option linter.unusedVariables false
set_option linter.unusedSimpArgs false

def delA (L : List K) (k i : Nat) : List K := if k < i then L.take k ++ (L.take i).drop (k + 1) else L.take i
theorem delA_step {L : List K} {j i : Nat} {k : K} (hk : L[i]? = some k) : delA L j (i + 1) = if i = j then delA L j i else delA L j i ++ [k] := by
  have hi := (List.getElem?_eq_some_iff.1 hk).1
  unfold delA
  by_cases h1 : i = j
  · subst h1
    rw [if_pos rfl, if_pos (by omega), if_neg (by omega), take_succ' L i k hk, List.drop_of_length_le (by rw [List.length_append, List.length_take, List.length_singleton]; omega)]
    simp
  · rw [if_neg h1]
    by_cases h2 : j < i
    · rw [if_pos h2, if_pos (by omega), take_succ' L i k hk, List.drop_append_of_le_length (by rw [List.length_take]; omega)]
      simp
    · rw [if_neg h2, if_neg (by omega), take_succ' L i k hk]
theorem delA_end {L : List K} {j : Nat} (hj : j < L.length) : delA L j L.length = L.take j ++ L.drop (j + 1) := by
  unfold delA
  rw [if_pos hj, List.take_length]
theorem delA_length (L : List K) (j i : Nat) : (delA L j i).length ≤ L.length := by
  unfold delA
  split
  · simp only [List.length_append, List.length_drop, List.length_take]; omega
  · rw [List.length_take]; omega
def rdelH1 (j h : Nat) : Nat := if j < h then h - 1 else h
def rdelH (L : List K) (h : Nat) (x : S) : Nat := if idx L x < L.length then (if L.length - 1 ≤ rdelH1 (idx L x) h then 0 else rdelH1 (idx L x) h) else h
set_option maxRecDepth 100000 in
set_option maxHeartbeats 4000000 in
theorem rdel_any (g : Nat) (F : List Nat) (L : List K) (h : Nat) (x : S) (w : World) (r : RC w g F L h) (hm : L.length ≤ 900) :
    Calls Try.prog 30 #[.pointer (some ⟨g, 0, none⟩), .agg #[.int .i64 x.s, .int .i64 x.p]] w fun e w' => e = .returned (.int .i64 (ecode L x)) ∧ ∃ F', Chg F F' w w' ∧ RC w' g F' (delK L x) (rdelH L h x) := by
  have hb0 : Below w.heap.size w (w.alloc (.cells #[.int .i64 x.s, .int .i64 x.p] 24)) := (Below.refl _ w).alloc (Nat.le_refl _) _
  have HM := Lib.hid (r.below hb0)
  clear r
  go_enter Try.func30, Try.ntmps30
  go_wp2_with fail
  generalize (w.alloc (.cells #[.int .i64 x.s, .int .i64 x.p] 24)) = w0 at hb0 HM ⊢
  refine (at_any g F L h x w0 HM.out (by omega)).mono ?_
  rintro e w1 ⟨rfl, hb1⟩
  have HM1 := Lib.hid (HM.out.below hb1)
  have HB := Lib.hid (Chg.of_below (F := F) (hb0.trans (hb1.mono hb0.size)))
  clear HM hb0 hb1
  by_cases hx : idx L x < L.length
  · rw [show ares' L x = (idx L x : Nat) from if_pos hx]
    have HR := Lib.hid (show ecode L x = 0 from if_pos hx)
    have HT := Lib.hid (And.intro (show delK L x = L.take (idx L x) ++ L.drop (idx L x + 1) from if_pos hx) (show rdelH L h x = if L.length - 1 ≤ rdelH1 (idx L x) h then 0 else rdelH1 (idx L x) h from if_pos hx))
    generalize idx L x = j at hx HT ⊢
    obtain ⟨v, rfl, h1, h2, h3, h4⟩ := HM1.out
    obtain ⟨ao, cap, rfl, hnc, hcm⟩ := h3.slice
    have c0 : w1.cell? ⟨g, 0, none⟩ = some (.slice ao L.length cap) := cell_of_row w1 g 0 _ 42 _ h2
    have c1 : w1.cell? ⟨g, 1, none⟩ = some (.int .i64 (h : Nat)) := cell_of_row w1 g 1 _ 42 _ h2
    obtain ⟨N, hN⟩ : ∃ N, L.length = N := ⟨_, rfl⟩
    have HN := Lib.hid hN
    have H2 := Lib.hid h2
    have hhN : h < N := by
      rcases h4 with h4 | ⟨rfl, _⟩
      · rw [← hN]; exact h4
      · simp at hx
    rw [hN] at c0 hm hnc h3 hx
    clear hN h2 HM1 h4
    have hge : decide ((j : Int) < 0) = false := decide_eq_false (by omega)
    obtain ⟨i0, hi0, hz0, hz1, hz2⟩ := info_parts (show (Try.prog.info? 45).map (fun i => (i.zero, i.size, i.bytes)) = some (some (.agg #[.int .i64 0, .int .i64 0, .bool false, .int .i64 0]), 4, 32) by kernel_rfl)
    go_wp2_with fail
    go_loopw [6, 7] (fun o s wr => ∃ (i : Nat) (l : List K), i ≤ N ∧ s = .int .i64 (i : Nat) ∧ l = delA L j i ∧ l.length ≤ 900 ∧ RowKit.Hid (Sq wr 45 4 o l.length (kc l) ∧ Chg [] (vblk o) w1 wr)) (fun _ s _ => N - (intOf s).toNat)
    case atStart => exact ⟨0, [], Nat.zero_le _, rfl, by simp [delA], by simp, Lib.hid ⟨Sq.nil _ _ _, by rw [vblk_nil]; exact Chg.refl _ _⟩⟩
    case round =>
      obtain ⟨i, l, hi, rfl, hl, hll, HR2⟩ := hrel
      have hbr : Below w1.heap.size w1 wr := HR2.out.2.below (fun b hb => by simp at hb) (Nat.le_refl _)
      have c0r := cell_keep hbr c0
      have c1r := cell_keep hbr c1
      have HLL := Lib.hid hl
      clear hl
      by_cases hlt : i < N
      · have hk := List.getElem?_eq_getElem (show i < L.length by rw [HN.out]; exact hlt)
        generalize L[i]'(by rw [HN.out]; exact hlt) = k at hk
        have HKK := Lib.hid hk
        have hle : (delA L j (i + 1)).length ≤ 900 := Nat.le_trans (delA_length _ _ _) (by rw [HN.out]; omega)
        rw [delA_step hk, ← HLL.out] at hle
        by_cases hih : i = j
        · have HLS : RowKit.Hid (l = delA L j (i + 1)) := Lib.hid (by rw [delA_step HKK.out, if_pos hih]; exact HLL.out)
          subst hih
          clear hk hle hbr
          go_wp2_with fail
          exact ⟨⟨i + 1, l, hlt, by simp, HLS.out, hll, HR2⟩, by simp [intOf]; omega⟩
        · have HLS : RowKit.Hid (l ++ [k] = delA L j (i + 1)) := Lib.hid (by rw [delA_step HKK.out, if_neg hih, ← HLL.out])
          rw [if_neg hih, List.length_append, List.length_singleton] at hle
          have hne : ((i : Int) == (j : Int)) = false := by rw [beq_eq_false_iff_ne]; omega
          have hne2 : ((i : Int) != (j : Int)) = true := by rw [bne_iff_ne]; omega
          obtain ⟨ao2, cap2, rfl, _, _⟩ := HR2.out.1.slice
          obtain ⟨g0, g1, g2, g3⟩ := kc_get L i k hk
          rcases h3.cases with ⟨_, h0⟩ | ⟨b, cap', hv, _, _, hbl, hcell, _⟩
          · omega
          cases hv
          have e0 := cell_keep hbr (hcell _ _ g0)
          have e1 := cell_keep hbr (hcell _ _ g1)
          have e2 := cell_keep hbr (hcell _ _ g2)
          have e3 := cell_keep hbr (hcell _ _ g3)
          have hiI : ((i : Nat) : Int) < ((N : Nat) : Int) := by omega
          have hA : Below wr.heap.size wr (wr.alloc (.cells #[.int .i64 k.s, .int .i64 k.p, .bool k.t, .int .i64 k.a] 45)) := (Below.refl _ wr).alloc (Nat.le_refl _) _
          have hown0 := HR2.out.1.below hA
          have hnew := news_alloc wr #[.int .i64 k.s, .int .i64 k.p, .bool k.t, .int .i64 k.a] 45
          have HC := Lib.hid (HR2.out.2.trans (Chg.of_below hA))
          clear hk hih hA HR2 g0 g1 g2 g3 hcell hbr
          go_wp2_with (at_builtin; refine wpList_append_any _ rfl (.tmp 25) (.tmp 33) 40 rfl 45 i0 (.agg #[.int .i64 0, .int .i64 0, .bool false, .int .i64 0]) 4 32 Try.underlying40 hi0 hz0 hz1 hz2 rfl (by decide) (.slice ao2 l.length cap2) l.length (kc l) rfl hown0 (some ⟨wr.heap.size, 0, none⟩) 1 1 (kc [k]) rfl (fun h => by cases h) rfl (fun a ha => by cases ha; rw [kc_one]; exact hnew) (kc_onecell _) (by unfold maxLen; omega) (by omega) ?_; intro v' w3 hown3 hgr3)
          refine ⟨⟨i + 1, l ++ [k], hlt, by simp, HLS.out, by rw [List.length_append, List.length_singleton]; exact hle, Lib.hid ⟨?_, HC.out.trans hgr3⟩⟩, by simp [intOf]; omega⟩
          rw [List.length_append, List.length_singleton, kc_append]
          exact hown3
      · have hiN : i = N := by omega
        subst hiN
        clear hlt
        have hg4 := (hbr.block g (lt_of_block H2.out)).trans H2.out
        have c04 : wr.cell? ⟨g, 0, none⟩ = some (.slice ao L.length cap) := cell_of_row wr g 0 _ 42 _ hg4
        have f04 := frozen_of_row wr g 0 _ 42 hg4
        have f14 := frozen_of_row wr g 1 _ 42 hg4
        have hl := HLL.out
        have hie : i = L.length := HN.out.symm
        rw [hie, delA_end (by rw [HN.out]; exact hx)] at hl
        obtain ⟨M, hM⟩ : ∃ M, l.length = M := ⟨_, rfl⟩
        have hMi : M + 1 = i := by
          rw [← hM, hl, List.length_append, List.length_take, List.length_drop, HN.out]
          omega
        obtain ⟨ao2, cap2, rfl, _, _⟩ := HR2.out.1.slice
        rw [hM] at HR2 ⊢
        have H5 : RowKit.Hid (∀ (w5 : World) (Q : Nat), w5.heap[g]? = some (.cells #[.slice ao2 M cap2, .int .i64 (Q : Nat)] 42 (0, 0)) → Chg (g :: vblk (.slice ao2 M cap2)) (g :: vblk (.slice ao2 M cap2)) wr w5 → (∀ b, b ∈ vblk (.slice ao2 M cap2) → w5.heap[b]? = wr.heap[b]?) → Q = (if i - 1 ≤ rdelH1 j h then 0 else rdelH1 j h) → Chg (g :: vblk (.slice ao L.length cap)) (g :: vblk (.slice ao2 M cap2)) w w5 ∧ RC w5 g (g :: vblk (.slice ao2 M cap2)) (delK L x) (rdelH L h x)) := Lib.hid (by
          intro w5 Q hw hc hb hQ
          have hgv : g ∉ vblk (.slice ao2 M cap2) := HR2.out.2.out (by simp) (lt_of_block H2.out)
          refine ⟨(HB.out.trans ((HR2.out.2.cons g).mono (fun b hb => by simp at hb; simp [hb]))).trans hc, ?_⟩
          rw [HT.out.1, HT.out.2, ← hl, HN.out, ← hQ]
          refine ⟨_, rfl, hgv, hw, ?_, ?_⟩
          · rw [hM]
            exact HR2.out.1.of_blocks hb
          · rw [hM, hQ]
            unfold rdelH1
            by_cases hM0 : M = 0
            · right
              have hl0 : l = [] := List.eq_nil_of_length_eq_zero (by rw [hM]; exact hM0)
              exact ⟨hl0, by rw [if_pos (by omega)]⟩
            · left
              by_cases hj' : j < h
              · simp only [hj', if_true]
                split <;> omega
              · simp only [hj', if_false]
                split <;> omega)
        have HG4 := Lib.hid hg4
        have hgv : g ∉ vblk (.slice ao2 M cap2) := HR2.out.2.out (by simp) (lt_of_block H2.out)
        have HGV := Lib.hid hgv
        clear hM hl HLL hie hg4 hbr hgv
        by_cases hjh : j < h
        · obtain ⟨q, hq⟩ : ∃ q, h = q + 1 := ⟨h - 1, by omega⟩
          have HQ := Lib.hid hq
          have hw1 : IntKind.i64.wrap ((h : Int) - 1) = (q : Nat) := by rw [IntKind.wrap_i64]; omega
          have hjI : decide ((j : Int) < (h : Int)) = true := decide_eq_true (by omega)
          clear hq
          by_cases hMq : M ≤ q
          · have hMI : decide ((M : Int) ≤ (q : Int)) = true := decide_eq_true (by omega)
            go_wp2_with fail
            have h6 := H5.out (((wr.setCell ⟨g, 1, none⟩ (.int .i64 (q : Nat))).setCell ⟨g, 0, none⟩ (.slice ao2 M cap2)).setCell ⟨g, 1, none⟩ (.int .i64 ((0 : Nat) : Int))) 0 (heap_setCell_same _ g 1 _ 42 _ (heap_setCell_same _ g 0 _ 42 _ (heap_setCell_same _ g 1 _ 42 _ HG4.out))) ((((Chg.refl _ _).setCell _ _ _ (List.mem_cons_self ..)).setCell _ _ _ (List.mem_cons_self ..)).setCell _ _ _ (List.mem_cons_self ..)) (fun b hb => by rw [Below.heap_setCell _ _ _ _ (show b ≠ g from fun e => HGV.out (e ▸ hb)), Below.heap_setCell _ _ _ _ (show b ≠ g from fun e => HGV.out (e ▸ hb)), Below.heap_setCell _ _ _ _ (show b ≠ g from fun e => HGV.out (e ▸ hb))]) (by have := HQ.out; unfold rdelH1; rw [if_pos hjh, if_pos (by omega)])
            exact bodyPost_ret (results_tmp rfl _ _ _) rfl ⟨by rw [HR.out]; rfl, _, h6⟩
          · have hMI : decide ((M : Int) ≤ (q : Int)) = false := decide_eq_false (by omega)
            go_wp2_with fail
            have h6 := H5.out _ q (heap_setCell_same _ g 0 _ 42 _ (heap_setCell_same _ g 1 _ 42 _ HG4.out)) (((Chg.refl _ _).setCell _ _ _ (List.mem_cons_self ..)).setCell _ _ _ (List.mem_cons_self ..)) (fun b hb => by rw [Below.heap_setCell _ _ _ _ (show b ≠ g from fun e => HGV.out (e ▸ hb)), Below.heap_setCell _ _ _ _ (show b ≠ g from fun e => HGV.out (e ▸ hb))]) (by have := HQ.out; unfold rdelH1; rw [if_pos hjh, if_neg (by omega)]; omega)
            exact bodyPost_ret (results_tmp rfl _ _ _) rfl ⟨by rw [HR.out]; rfl, _, h6⟩
        · have hjI : decide ((j : Int) < (h : Int)) = false := decide_eq_false (by omega)
          by_cases hMq : M ≤ h
          · have hMI : decide ((M : Int) ≤ (h : Int)) = true := decide_eq_true (by omega)
            go_wp2_with fail
            have h6 := H5.out _ 0 (heap_setCell_same _ g 1 _ 42 _ (heap_setCell_same _ g 0 _ 42 _ HG4.out)) (((Chg.refl _ _).setCell _ _ _ (List.mem_cons_self ..)).setCell _ _ _ (List.mem_cons_self ..)) (fun b hb => by rw [Below.heap_setCell _ _ _ _ (show b ≠ g from fun e => HGV.out (e ▸ hb)), Below.heap_setCell _ _ _ _ (show b ≠ g from fun e => HGV.out (e ▸ hb))]) (by unfold rdelH1; rw [if_neg hjh, if_pos (by omega)])
            exact bodyPost_ret (results_tmp rfl _ _ _) rfl ⟨by rw [HR.out]; rfl, _, h6⟩
          · have hMI : decide ((M : Int) ≤ (h : Int)) = false := decide_eq_false (by omega)
            go_wp2_with fail
            have h6 := H5.out _ h (heap_setCell_same _ g 0 _ 42 _ HG4.out) ((Chg.refl _ _).setCell _ _ _ (List.mem_cons_self ..)) (fun b hb => by rw [Below.heap_setCell _ _ _ _ (show b ≠ g from fun e => HGV.out (e ▸ hb))]) (by unfold rdelH1; rw [if_neg hjh, if_neg (by omega)])
            exact bodyPost_ret (results_tmp rfl _ _ _) rfl ⟨by rw [HR.out]; rfl, _, h6⟩
  · rw [show ares' L x = -1 from if_neg hx]
    have HR := Lib.hid (show ecode L x = 6 from if_neg hx)
    have HT := Lib.hid (And.intro (show delK L x = L from if_neg hx) (show rdelH L h x = h from if_neg hx))
    go_wp2_with fail
    exact bodyPost_ret (results_tmp rfl _ _ _) rfl ⟨by rw [HR.out]; rfl, F, HB.out, by rw [HT.out.1, HT.out.2]; exact HM1.out⟩

end Go.Proofs.Ytehbonhdhblpgaa
