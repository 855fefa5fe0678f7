/- Parts of the proofs of layer 20 (regions): contracts of its functions, and the laws' walks. -/
import Derived.Test.YtnakmjajpfilgaaProg
import Derived.WalkKit
import Derived.WalkSpells
import Derived.WalkLawsBesides
import Derived.BigQuiet
import Derived.Deep.QuietTactic
import Derived.Lib.Hide
import Derived.Deep.RegionHeld3
import Derived.Deep.DeepCutAuto
import Derived.KernelRfl
import Derived.Deep.OwnRows
import Derived.Laws.CopyOwn
import Derived.Laws.CopyRow
import Derived.StillTailTactics
import Derived.Deep.RegionLaw
import Derived.Test.YtnakmjajpfilgaaD5
namespace Go.Proofs.Ytnakmjajpfilgaa
open Go.RowKit
set_option linter.unusedVariables false
set_option linter.unusedSimpArgs false

/-- The regions are a new row, made of blocks that were not the map's. -/
theorem Mp.setl2 {w w3 : World} {g : Nat} {vl vq v' : Value} {l' q : List R2} {G : List Nat} (h1 : g ∉ G) (h2 : g ∉ vblk vq) (h3 : Sep (vblk vq) G) (h4 : w.heap[g]? = some (.cells #[vl, vq] 52 (0, 0))) (h6 : Told w vq q) (hc : Chg G (vblk v') w w3) (hq : Told w3 v' l') :
    Chg ((g :: (vblk vl ++ vblk vq)) ++ G) (g :: (vblk v' ++ vblk vq)) w (w3.setCell ⟨g, 0, none⟩ v') ∧ Mp (w3.setCell ⟨g, 0, none⟩ v') g (g :: (vblk v' ++ vblk vq)) l' q := by
  have hgl := lt_of_block h4
  have hgv := hc.out h1 hgl
  have hC : Chg ((g :: (vblk vl ++ vblk vq)) ++ G) ((g :: vblk vq) ++ vblk v') w w3 := hc.keepl (fun b hb => by simp [hb]) (fun b hb => by rcases List.mem_cons.1 hb with rfl | hb <;> simp [*])
  have hC' : Chg ((g :: (vblk vl ++ vblk vq)) ++ G) (g :: (vblk v' ++ vblk vq)) w w3 := hC.sub fun b hb => by
    rcases List.mem_cons.1 hb with rfl | hb
    · simp
    · rcases List.mem_append.1 hb with hb | hb <;> simp [hb]
  refine ⟨hC'.setCell _ _ _ (by simp), v', vq, rfl, hgv, h2, hc.sep h3.symm h6.lt, ?_, ?_, ?_⟩
  · exact heap_setCell_same w3 g 0 _ 52 _ ((hc.block hgl h1).trans h4)
  · exact hq.set_other hgv _ _
  · exact (h6.chg hc h3).set_other h2 _ _
theorem Chg.grow {F F' H : List Nat} {w w' : World} (h : Chg F F' w w') (hH : ∀ b, b ∈ H → w.heap.size ≤ b) : Chg F (F' ++ H) w w' :=
  ⟨h.1, h.2.1, h.2.2.1, h.2.2.2.1, h.2.2.2.2.1, fun b hb => by
    rcases List.mem_append.1 hb with hb | hb
    · exact h.2.2.2.2.2 b hb
    · exact .inr (hH b hb)⟩
def addn (l q : List R2) (a b : Int) : Int := if done q a b = 0 then b - a - cntL l ⟨a, b⟩ else 0
def addl (l q : List R2) (a b : Int) : List R2 := if done q a b = 0 ∧ a ≠ b then addL l ⟨a, b⟩ else l
theorem done_wrg {q : List R2} {a b : Int} (h : done q a b = 0) : wrg a b = 0 := by
  unfold done at h
  split at h
  · assumption
  · cases h
theorem fold_length (l : List R2) (st : List R2 × R2) : (l.foldl stepA st).1.length ≤ st.1.length + l.length := by
  induction l generalizing st with
  | nil => exact Nat.le_refl _
  | cons r l ih =>
    rw [List.foldl_cons, List.length_cons]
    have := ih (stepA st r)
    have := stepA_length st r
    omega
theorem doneq_length (q : List R2) (a b : Int) : (doneq q a b).length ≤ q.length := by
  unfold doneq
  split
  · exact era_length _ _
  · exact Nat.le_refl _
set_option maxRecDepth 100000 in
set_option maxHeartbeats 8000000 in
theorem add_any (g : Nat) (F : List Nat) (l q : List R2) (a b : Int) (w : World) (h : Mp w g F l q) (hm : l.length ≤ 90000) (hq : q.length ≤ 100000) (hr : ∀ r ∈ l, 0 ≤ r.a ∧ r.a ≤ 65536 ∧ 0 ≤ r.b ∧ r.b ≤ 65536) :
    Calls Try.prog 21 #[.pointer (some ⟨g, 0, none⟩), .int .i64 a, .int .i64 b] w fun e w' => e = .returned (.tuple #[.int .i64 (addn l q a b), .int .i64 (done q a b)]) ∧ ∃ F', Chg F F' w w' ∧ Mp w' g F' (addl l q a b) (doneq q a b) := by
  have HM := Lib.hid h
  have HR := Lib.hid hr
  clear h hr
  go_enter Try.func21, Try.ntmps21
  go_wp2_with fail
  refine (done_any g F l q a b w HM.out hq).mono ?_
  rintro e w1 ⟨rfl, F1, hc1, hm1⟩
  have HC1 := Lib.hid hc1
  have HM1 := Lib.hid hm1
  clear hc1 hm1 HM
  obtain ⟨q', hq'⟩ : ∃ q', doneq q a b = q' := ⟨_, rfl⟩
  rw [hq'] at HM1
  have HQ := Lib.hid hq'
  have hql : q'.length ≤ 100000 := by rw [← hq']; exact Nat.le_trans (doneq_length _ _ _) hq
  clear hq'
  by_cases hd : done q a b = 0
  · obtain ⟨r1, r2, r3⟩ := wrg_ok (done_wrg hd)
    rw [hd]
    have HD := Lib.hid hd
    have HAN := Lib.hid (show addn l q a b = b - a - cntL l ⟨a, b⟩ from if_pos hd)
    clear hd
    go_wp2_with fail
    refine (count_any g F1 l q' a b w1 HM1.out (by omega) HR.out (by omega)).mono ?_
    rintro e w2 ⟨rfl, hb2⟩
    have HM2 := Lib.hid (HM1.out.below hb2)
    have HC2 := Lib.hid (HC1.out.trans (Chg.of_below hb2))
    have hcn := cntL_nonneg l ⟨a, b⟩
    have hcl := cntL_le ⟨a, b⟩ l HR.out
    clear hb2 HM1 HC1
    have hs2 : IntKind.i64.wrap (b - a) = b - a := by rw [IntKind.wrap_i64]; omega
    by_cases hab : a = b
    · have HAL := Lib.hid (show addl l q a b = l from if_neg (fun e => e.2 hab))
      have hc0 := cntL_empty l ⟨a, b⟩ (by show b ≤ a; omega)
      rw [hc0] at HAN ⊢
      have HAN0 : RowKit.Hid (addn l q a b = 0) := Lib.hid (by rw [HAN.out]; omega)
      subst hab
      clear hcn hcl hc0
      go_wp2_with fail
      refine bodyPost_ret (results_tmp2 rfl _ _ _) rfl ⟨by rw [HAN0.out, HD.out]; rfl, F1, HC2.out, by rw [HAL.out, HQ.out]; exact HM2.out⟩
    · have HAL := Lib.hid (show addl l q a b = addL l ⟨a, b⟩ from if_pos ⟨HD.out, hab⟩)
      have hlt : a < b := by omega
      generalize cntL l ⟨a, b⟩ = c at *
      have hs1 : IntKind.i64.wrap (b - a - c) = b - a - c := by rw [IntKind.wrap_i64]; omega
      have hne : (a == b) = false := by rw [beq_eq_false_iff_ne]; exact hab
      go_upto_region 10 with fail
      have hA3 : Below w2.heap.size w2 (w2.alloc (.cells #[.slice none 0 0] 28)) := (Below.refl _ w2).alloc (Nat.le_refl _) _
      have hA4 : Below w2.heap.size w2 ((w2.alloc (.cells #[.slice none 0 0] 28)).alloc (.cells #[.int .i64 a, .int .i64 b] 30)) := hA3.alloc (by simp) _
      have hB0 := heap_alloc_new w2 (.cells #[.slice none 0 0] 28)
      have hX := Box.new (w2.alloc (.cells #[.slice none 0 0] 28)) ⟨a, b⟩
      rw [World.size_alloc] at hX
      have hP : PutSt ((w2.alloc (.cells #[.slice none 0 0] 28)).alloc (.cells #[.int .i64 a, .int .i64 b] 30)) (w2.heap.size + 1) w2.heap.size ([], ⟨a, b⟩) (.slice none 0 0) := ⟨hX, (Below.heap_alloc _ _ _ (lt_of_block hB0)).trans hB0, Sq.nil _ _ _, by omega, by simp [vblk_nil], by simp [vblk_nil]⟩
      have HP4 := Lib.hid hP
      have HM4 := Lib.hid (HM2.out.below hA4)
      have HC4 : RowKit.Hid (Chg F (F1 ++ [w2.heap.size + 1, w2.heap.size]) w _) := Lib.hid ((HC2.out.trans (Chg.of_below hA4)).grow (fun x hx => by have := HC2.out.size; simp at hx; omega))
      have HS4 : RowKit.Hid (Sep F1 [w2.heap.size + 1, w2.heap.size]) := Lib.hid (fun x hx hm => by have := HM2.out.lt x hx; simp at hm; omega)
      clear hA3 hA4 hB0 hX hP HM2 HC2
      generalize ((w2.alloc (.cells #[.slice none 0 0] 28)).alloc (.cells #[.int .i64 a, .int .i64 b] 30)) = w4 at *
      generalize hAe : w2.heap.size + 1 = A at *
      generalize w2.heap.size = B at *
      clear hAe
      obtain ⟨vl, vq, rfl, m1, m2, m3, m4, m5, m6⟩ := HM4.out
      obtain ⟨al, cl, rfl, _, _⟩ := m5.slice
      have c0 : w4.cell? ⟨g, 0, none⟩ = some (.slice al l.length cl) := cell_of_row w4 g 0 _ 52 _ m4
      have HT := Lib.hid m5
      clear m1 m2 m3 m4 m5 m6
      go_wp2_with fail
      clear c0
      go_loopw [42] (fun s wr => ∃ (i : Nat) (o : Value), i ≤ l.length ∧ s = .int .i64 (i : Nat) ∧ RowKit.Hid (PutSt wr A B ((l.take i).foldl stepA ([], ⟨a, b⟩)) o ∧ Chg [A, B] (A :: B :: vblk o) w4 wr)) (fun s _ => l.length - (intOf s).toNat)
      case atStart => exact ⟨0, .slice none 0 0, Nat.zero_le _, rfl, Lib.hid ⟨HP4.out, by rw [vblk_nil]; exact Chg.refl _ _⟩⟩
      case round =>
        obtain ⟨i, o, hi, rfl, HR2⟩ := hrel
        by_cases hil : i < l.length
        · have hTr : Told wr (.slice al l.length cl) l := HT.out.chg HR2.out.2 (fun x hx => HS4.out x (by simp [hx]))
          obtain ⟨bl, cl', hv, hbl, hcell⟩ := hTr.read (ne_nil_of_lt hil)
          cases hv
          have hk := List.getElem?_eq_getElem hil
          generalize l[i] = k at hk
          obtain ⟨e0, e1⟩ := hcell i k hk
          have hA : Below wr.heap.size wr (wr.alloc (.cells #[.int .i64 k.a, .int .i64 k.b] 30)) := (Below.refl _ wr).alloc (Nat.le_refl _) _
          have hiI : ((i : Nat) : Int) < ((l.length : Nat) : Int) := by omega
          have HPA := Lib.hid (HR2.out.1.below hA)
          have HCA := Lib.hid (HR2.out.2.trans (Chg.of_below hA))
          have HTK := Lib.hid (take_succ' l i k hk)
          have hfl := fold_length (l.take i) ([], ⟨a, b⟩)
          rw [List.length_take] at hfl
          clear hTr hcell hk hA HR2
          go_wp2_with fail
          refine (put_any A B _ k o _ HPA.out (by simp at hfl; omega)).mono ?_
          rintro e w7 ⟨rfl, o', hp7, hc7⟩
          have H7 : RowKit.Hid (PutSt w7 A B ((l.take (i + 1)).foldl stepA ([], ⟨a, b⟩)) o' ∧ Chg [A, B] (A :: B :: vblk o') w4 w7) := Lib.hid ⟨by rw [HTK.out, List.foldl_append]; exact hp7, HCA.out.trans hc7⟩
          clear hp7 hc7 hfl
          go_wp2_with fail
          exact ⟨⟨i + 1, o', hil, by simp, H7⟩, by simp [intOf]; omega⟩
        · have hil2 : i = l.length := by omega
          have hfin := fold_addL l ([], ⟨a, b⟩)
          have hfl := fold_length l ([], ⟨a, b⟩)
          rw [hil2, List.take_length] at HR2
          generalize l.foldl stepA ([], ⟨a, b⟩) = st at *
          obtain ⟨L0, ⟨oa, ob⟩⟩ := st
          dsimp only at hfin hfl
          rw [List.nil_append] at hfin
          have hL0 : L0.length ≤ 90000 := by simp at hfl; omega
          have HF := Lib.hid hfin
          clear hfin hfl
          obtain ⟨p1, p2, p3, p4, p5, p6⟩ := HR2.out.1
          dsimp only at p1 p3
          obtain ⟨ao, cap, rfl, _, _⟩ := p3.slice
          obtain ⟨x0, x1⟩ := p1.cells
          dsimp only at x0 x1
          have b0 := cell_of_one p2
          have hSepO : Sep (A :: B :: vblk (.slice ao L0.length cap)) (g :: (vblk (.slice al l.length cl) ++ vblk vq)) := HR2.out.2.sep HS4.out.symm HM4.out.lt
          have hA : Below wr.heap.size wr (wr.alloc (.cells #[.int .i64 oa, .int .i64 ob] 30)) := (Below.refl _ wr).alloc (Nat.le_refl _) _
          have hown := p3.below hA
          have hnew := news_alloc wr #[.int .i64 oa, .int .i64 ob] 30
          have hM5 := (HM4.out.chg HR2.out.2 HS4.out).below hA
          have HC5 := Lib.hid ((HC4.out.trans (HR2.out.2.keepl (G := (g :: (vblk (.slice al l.length cl) ++ vblk vq)) ++ [A, B]) (H := g :: (vblk (.slice al l.length cl) ++ vblk vq)) (fun x hx => List.mem_append_right _ hx) (fun x hx => List.mem_append_left _ hx))).trans (Chg.of_below hA))
          obtain ⟨vl5, vq5, hF5, m1, m2, m3, m4, m5, m6⟩ := hM5
          have HGR : RowKit.Hid (∀ v' w6, Told w6 v' (addL l ⟨a, b⟩) → Chg (vblk (.slice ao L0.length cap)) (vblk v') (wr.alloc (.cells #[.int .i64 oa, .int .i64 ob] 30)) w6 → ∃ F', Chg F F' w (w6.setCell ⟨g, 0, none⟩ v') ∧ Mp (w6.setCell ⟨g, 0, none⟩ v') g F' (addL l ⟨a, b⟩) q') := Lib.hid (fun v' w6 hT6 hc6 => by
            obtain ⟨y1, y2⟩ := Mp.setl2 (vl := vl5) (vq := vq5) (G := vblk (.slice ao L0.length cap)) (fun hm => hSepO g (by simp [hm]) (by simp)) m2 (fun x hx hm => hSepO x (by simp [hm]) (by rw [hF5]; simp [hx])) m4 m6 hc6 hT6
            refine ⟨_, HC5.out.trans (y1.mono (fun x hx => ?_)), y2⟩
            rcases List.mem_append.1 hx with hx | hx
            · rw [← hF5] at hx
              exact List.mem_append_left _ hx
            · exact List.mem_append_right _ (by simp [hx]))
          have hgO : g ∉ vblk (.slice ao L0.length cap) := fun hm => hSepO g (by simp [hm]) (by simp)
          have HG5 := Lib.hid (And.intro m4 (lt_of_block m4))
          clear m1 m2 m3 m4 m5 m6 hF5 p1 p2 p3 hSepO hA HR2
          obtain ⟨i0, hi0, hz0, hz1, hz2⟩ := info_parts (show (Try.prog.info? 30).map (fun i => (i.zero, i.size, i.bytes)) = some (some (.agg #[.int .i64 0, .int .i64 0]), 2, 16) by kernel_rfl)
          go_wp2_with (at_builtin; refine wpList_append_any _ rfl (.tmp 51) (.tmp 53) 28 rfl 30 i0 (.agg #[.int .i64 0, .int .i64 0]) 2 16 Try.underlying28 hi0 hz0 hz1 hz2 rfl (by decide) (.slice ao L0.length cap) L0.length (rc L0) rfl hown (some ⟨wr.heap.size, 0, none⟩) 1 1 (rc [⟨oa, ob⟩]) rfl (fun h => by cases h) rfl (fun a ha => by cases ha; rw [rc_one]; exact hnew) (rc_onecell _) (by unfold maxLen; omega) (by omega) ?_; intro v' w6 hown6 hgr; obtain ⟨ao6, cap6, rfl, _, _⟩ := Sq.slice hown6; have hg6 := (hgr.block HG5.out.2 hgO).trans HG5.out.1; have g6 := cell_of_row w6 g 0 _ 52 _ hg6; have f6 := frozen_of_row w6 g 0 _ 52 hg6; replace g6 : w6.cell? ⟨g, 0, none⟩ = some vl5 := g6)
          obtain ⟨F', y1, y2⟩ := HGR.out _ w6 (by rw [← HF.out]; unfold Told; rw [List.length_append, rc_append]; exact hown6) hgr
          refine bodyPost_ret (results_tmp2 rfl _ _ _) rfl ⟨by rw [HAN.out, HD.out]; rfl, F', y1, by rw [HAL.out, HQ.out]; exact y2⟩
  · have HA := Lib.hid (And.intro (show addn l q a b = 0 from if_neg hd) (show addl l q a b = l from if_neg (fun e => hd e.1)))
    obtain ⟨dv, hdv⟩ : ∃ dv, done q a b = dv := ⟨_, rfl⟩
    have hdn : (dv != 0) = true := by rw [bne_iff_ne, ← hdv]; exact hd
    have HDV := Lib.hid hdv
    rw [hdv]
    clear hd hdv
    go_wp2_with fail
    refine bodyPost_ret (results_tmp2 rfl _ _ _) rfl ⟨by rw [HA.out.1, HDV.out]; rfl, F1, HC1.out, by rw [HA.out.2, HQ.out]; exact HM1.out⟩

end Go.Proofs.Ytnakmjajpfilgaa
