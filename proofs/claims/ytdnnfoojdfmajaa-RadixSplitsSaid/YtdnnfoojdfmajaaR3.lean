/- Parts of the proofs of layer 19 (radix): contracts of its functions, and the laws' walks. -/
import Derived.Test.YtdnnfoojdfmajaaProg
import Derived.WalkKit
import Derived.WalkSpells
import Derived.WalkLawsBesides
import Derived.BigQuiet
import Derived.Deep.QuietTactic
import Derived.Lib.Hide
import Derived.Deep.RegionHeld3
import Derived.Deep.DeepCutAuto
import Derived.KernelRfl
import Derived.Deep.OwnRows
import Derived.Laws.CopyOwn
import Derived.Laws.CopyRow
import Derived.StillTailTactics
import Derived.Deep.RegionLaw
import Derived.Handy
import Derived.Deep.CutRange
import Derived.Deep.CutBlock
import Derived.Test.YtdnnfoojdfmajaaR2
namespace Go.Proofs.Ytdnnfoojdfmajaa
open Go.RowKit
set_option linter.unusedVariables false
set_option linter.unusedSimpArgs false

/-- An entry in its place. -/
def ins (x : X) : List X → List X
  | [] => [x]
  | y :: l => if x.p < y.p then x :: y :: l else y :: ins x l
theorem ins_le {x : X} : ∀ {M : List X}, (∀ y ∈ M, y.p ≤ x.p) → ∀ R, ins x (M ++ R) = M ++ ins x R
  | [], _, R => rfl
  | y :: M, h, R => by
    rw [List.cons_append, ins, if_neg (by have := h y (by simp); omega), ins_le (fun z hz => h z (by simp [hz])) R]
    rfl
theorem ins_mem {x y : X} : ∀ {L : List X}, y ∈ ins x L ↔ y = x ∨ y ∈ L
  | [] => by simp [ins]
  | z :: l => by
    unfold ins
    split
    · simp
    · rw [List.mem_cons, ins_mem, List.mem_cons]
      constructor
      · rintro (h | h | h)
        · exact .inr (.inl h)
        · exact .inl h
        · exact .inr (.inr h)
      · rintro (h | h | h)
        · exact .inr (.inl h)
        · exact .inl h
        · exact .inr (.inr h)
theorem ins_length {x : X} : ∀ {L : List X}, (ins x L).length = L.length + 1
  | [] => rfl
  | z :: l => by
    unfold ins
    split
    · simp
    · rw [List.length_cons, ins_length, List.length_cons]
theorem drop_cons' {α : Type} {l : List α} {i : Nat} {a : α} (h : l[i]? = some a) : l.drop i = a :: l.drop (i + 1) := by
  obtain ⟨hi, rfl⟩ := List.getElem?_eq_some_iff.1 h
  exact List.drop_eq_getElem_cons hi
/-- Half way through. -/
def Half (x : X) (L : List X) (i : Nat) (d : Bool) (lo : List X) : Prop := (d = false ∧ lo = L.take i ∧ ∀ y ∈ L.take i, y.p ≤ x.p) ∨ (d = true ∧ lo ++ L.drop i = ins x L)
theorem Half.len {x : X} {L : List X} {i : Nat} {d : Bool} {lo : List X} (h : Half x L i d lo) : lo.length ≤ L.length + 1 := by
  rcases h with ⟨_, rfl, _⟩ | ⟨_, h⟩
  · rw [List.length_take]; omega
  · have := congrArg List.length h
    rw [List.length_append, ins_length] at this
    omega
theorem Half.next_done {x k : X} {L : List X} {i : Nat} {lo : List X} (h : Half x L i true lo) (hk : L[i]? = some k) : Half x L (i + 1) true (lo ++ [k]) := by
  rcases h with ⟨h, _⟩ | ⟨_, h⟩
  · cases h
  · rw [drop_cons' hk] at h
    exact .inr ⟨rfl, by rw [List.append_assoc]; exact h⟩
theorem Half.next_not {x k : X} {L : List X} {i : Nat} {lo : List X} (h : Half x L i false lo) (hk : L[i]? = some k) (hle : ¬ x.p < k.p) : Half x L (i + 1) false (lo ++ [k]) := by
  rcases h with ⟨_, rfl, h⟩ | ⟨h, _⟩
  · refine .inl ⟨rfl, (take_succ' L i _ hk).symm, fun y hy => ?_⟩
    rw [take_succ' L i _ hk] at hy
    rcases List.mem_append.1 hy with hy | hy
    · exact h y hy
    · simp at hy; subst hy; omega
  · cases h
theorem Half.next_now {x k : X} {L : List X} {i : Nat} {lo : List X} (h : Half x L i false lo) (hk : L[i]? = some k) (hlt : x.p < k.p) : Half x L (i + 1) true (lo ++ [x] ++ [k]) := by
  rcases h with ⟨_, rfl, h⟩ | ⟨h, _⟩
  · refine .inr ⟨rfl, ?_⟩
    have e : L = L.take i ++ L.drop i := (List.take_append_drop i L).symm
    conv => rhs; rw [e, ins_le h, drop_cons' hk]
    rw [ins, if_pos hlt]
    simp
  · cases h
theorem Half.fin {x : X} {L lo : List X} (h : Half x L L.length false lo) : lo ++ [x] = ins x L := by
  rcases h with ⟨_, rfl, h⟩ | ⟨h, _⟩
  · rw [List.take_length] at h ⊢
    have := ins_le h []
    rw [List.append_nil] at this
    exact this.symm
  · cases h
theorem Half.fin_done {x : X} {L lo : List X} (h : Half x L L.length true lo) : lo = ins x L := by
  rcases h with ⟨h, _⟩ | ⟨_, h⟩
  · cases h
  · rw [List.drop_length, List.append_nil] at h
    exact h
set_option maxRecDepth 100000 in
set_option maxHeartbeats 8000000 in
theorem Rput_any (x : X) (g : Nat) (F : List Nat) (L : List X) (w : World) (h : Rt w g F L) (hm : L.length ≤ 5000) :
    Calls Try.prog 56 #[.pointer (some ⟨g, 0, none⟩), .agg #[.int .i64 ((x.p : Nat) : Int), .int .i64 (3 * ((x.k : Nat) : Int)), .int .i64 x.v, .bool x.a, .bool x.b, .bool x.c]] w fun e w' => e = .returned (.tuple #[]) ∧ ∃ F', Chg F F' w w' ∧ Rt w' g F' (ins x L) := by
  have hz := heap_alloc_new w (.cells #[.int .i64 ((x.p : Nat) : Int), .int .i64 (3 * ((x.k : Nat) : Int)), .int .i64 x.v, .bool x.a, .bool x.b, .bool x.c] 40)
  have hA1 : Below w.heap.size w (w.alloc (.cells #[.int .i64 ((x.p : Nat) : Int), .int .i64 (3 * ((x.k : Nat) : Int)), .int .i64 x.v, .bool x.a, .bool x.b, .bool x.c] 40)) := (Below.refl _ _).alloc (Nat.le_refl _) _
  have HM := Lib.hid (h.below hA1)
  have HB1 := Lib.hid hA1
  have HX := Lib.hid (And.intro (cell_of_row _ _ 0 _ 40 _ hz) (And.intro (cell_of_row _ _ 1 _ 40 _ hz) (And.intro (cell_of_row _ _ 2 _ 40 _ hz) (And.intro (cell_of_row _ _ 3 _ 40 _ hz) (And.intro (cell_of_row _ _ 4 _ 40 _ hz) (cell_of_row _ _ 5 _ 40 _ hz))))))
  clear h hz hA1
  obtain ⟨i0, hi0, hz0, hz1, hz2⟩ := info_parts (show (Try.prog.info? 40).map (fun i => (i.zero, i.size, i.bytes)) = some (some (.agg #[.int .i64 0, .int .i64 0, .int .i64 0, .bool false, .bool false, .bool false]), 6, 32) by kernel_rfl)
  go_enter Try.func56, Try.ntmps56
  go_upto_region 1 with fail
  generalize w.alloc (.cells #[.int .i64 ((x.p : Nat) : Int), .int .i64 (3 * ((x.k : Nat) : Int)), .int .i64 x.v, .bool x.a, .bool x.b, .bool x.c] 40) = w1 at *
  generalize hD : w.heap.size = D at *
  have HD := Lib.hid hD
  clear hD
  go_wp2_with fail
  go_loopw [4, 5, 6] (fun o sd s wr => ∃ (i : Nat) (lo : List X) (d : Bool), i ≤ L.length ∧ s = .int .i64 (i : Nat) ∧ sd = .bool d ∧ RowKit.Hid (Half x L i d lo ∧ Told wr o lo ∧ Chg [] (vblk o) w1 wr)) (fun _ _ s _ => L.length - (intOf s).toNat)
  case atStart => exact ⟨0, [], false, Nat.zero_le _, rfl, rfl, Lib.hid ⟨.inl ⟨rfl, by simp, fun y hy => by simp at hy⟩, Sq.nil _ _ _, by rw [vblk_nil]; exact Chg.refl _ _⟩⟩
  case round =>
    obtain ⟨i, lo, d, hi, rfl, rfl, HL⟩ := hrel
    have hbr : Below w1.heap.size w1 wr := HL.out.2.2.below (fun b hb => by simp at hb) (Nat.le_refl _)
    have hln := HL.out.1.len
    obtain ⟨al', cl', c0w, hT', _⟩ := HM.out.cells
    have c0 := cell_keep hbr c0w
    obtain ⟨ao, cap, rfl, _, _⟩ := HL.out.2.1.slice
    by_cases hil : i < L.length
    · obtain ⟨bl, cl2, hv, _, _, hbl, hcell, _⟩ := hT'.read (ne_nil_of_lt hil)
      cases hv
      have hk := List.getElem?_eq_getElem hil
      generalize L[i] = k at hk
      have HEB := Lib.hid (And.intro (hcell i _ hk) c0w)
      have hiI : ((i : Nat) : Int) < ((L.length : Nat) : Int) := by omega
      have HK := Lib.hid hk
      clear hcell hk hbl c0w hT' c0
      have e0 := cell_keep hbr HEB.out.1.1
      have e1 := cell_keep hbr HEB.out.1.2.1
      have e2 := cell_keep hbr HEB.out.1.2.2.1
      have e3 := cell_keep hbr HEB.out.1.2.2.2.1
      have e4 := cell_keep hbr HEB.out.1.2.2.2.2.1
      have e5 := cell_keep hbr HEB.out.1.2.2.2.2.2
      have c0 := cell_keep hbr HEB.out.2
      cases d with
      | true =>
        clear hbr
        go_upto_region 6 with fail
        go_quiet (fail)
        have HQ4 := Lib.hid (And.intro (show Told (wr.drewN nq) _ lo from Sq.drewN HL.out.2.1 nq) (HL.out.2.2.drewN nq))
        clear e0 e1 e2 e3 e4 e5 c0
        generalize wr.drewN nq = w4 at *
        have e0 := cell_keep (HQ4.out.2.below (fun b hb => by simp at hb) (Nat.le_refl _)) HEB.out.1.1
        have e1 := cell_keep (HQ4.out.2.below (fun b hb => by simp at hb) (Nat.le_refl _)) HEB.out.1.2.1
        have e2 := cell_keep (HQ4.out.2.below (fun b hb => by simp at hb) (Nat.le_refl _)) HEB.out.1.2.2.1
        have e3 := cell_keep (HQ4.out.2.below (fun b hb => by simp at hb) (Nat.le_refl _)) HEB.out.1.2.2.2.1
        have e4 := cell_keep (HQ4.out.2.below (fun b hb => by simp at hb) (Nat.le_refl _)) HEB.out.1.2.2.2.2.1
        have e5 := cell_keep (HQ4.out.2.below (fun b hb => by simp at hb) (Nat.le_refl _)) HEB.out.1.2.2.2.2.2
        have c0 := cell_keep (HQ4.out.2.below (fun b hb => by simp at hb) (Nat.le_refl _)) HEB.out.2
        have hA : Below w4.heap.size w4 (w4.alloc (.cells #[.int .i64 ((k.p : Nat) : Int), .int .i64 (3 * ((k.k : Nat) : Int)), .int .i64 k.v, .bool k.a, .bool k.b, .bool k.c] 40)) := (Below.refl _ _).alloc (Nat.le_refl _) _
        have hown := Told.below HQ4.out.1 hA
        have hnew := news_alloc w4 #[.int .i64 ((k.p : Nat) : Int), .int .i64 (3 * ((k.k : Nat) : Int)), .int .i64 k.v, .bool k.a, .bool k.b, .bool k.c] 40
        clear hA
        have HGO := Lib.hid (fun vq1 wq1 (hownq : Sq wq1 40 6 vq1 (lo.length + 1) (rc lo ++ rc [k])) (hgrq : Chg (vblk (.slice ao lo.length cap)) (vblk vq1) (w4.alloc (.cells #[.int .i64 ((k.p : Nat) : Int), .int .i64 (3 * ((k.k : Nat) : Int)), .int .i64 k.v, .bool k.a, .bool k.b, .bool k.c] 40)) wq1) => grow hownq hgrq HQ4.out.2)
        go_wp2_with (at_builtin; refine wpList_append_any _ rfl (.tmp 35) (.tmp 43) 34 rfl 40 i0 (.agg #[.int .i64 0, .int .i64 0, .int .i64 0, .bool false, .bool false, .bool false]) 6 32 Try.underlying34 hi0 hz0 hz1 hz2 rfl (by decide) (.slice ao lo.length cap) lo.length (rc lo) rfl hown (some ⟨w4.heap.size, 0, none⟩) 1 1 (rc [k]) rfl (fun h => by cases h) rfl (fun a ha => by cases ha; exact (by rw [rc_one]; exact hnew)) (rc_onecell _) (by unfold maxLen; omega) (by omega) ?_; intro vq1 wq1 hownq hgrq; have HG1 := Lib.hid (HGO.out vq1 wq1 hownq hgrq); clear hgrq; obtain ⟨ao1, cap1, rfl, _, _⟩ := Sq.slice hownq; clear hownq hown hnew HGO)
        exact ⟨⟨i + 1, lo ++ [k], true, hil, by simp, by first | rfl | trivial, Lib.hid ⟨HL.out.1.next_done HK.out, HG1.out.1, HG1.out.2⟩⟩, by simp [intOf]; omega⟩
      | false =>
        have x0 := cell_keep hbr HX.out.1
        have x1 := cell_keep hbr HX.out.2.1
        have x2 := cell_keep hbr HX.out.2.2.1
        have x3 := cell_keep hbr HX.out.2.2.2.1
        have x4 := cell_keep hbr HX.out.2.2.2.2.1
        have x5 := cell_keep hbr HX.out.2.2.2.2.2
        clear hbr
        by_cases hlt : x.p < k.p
        · have hltI : ((x.p : Nat) : Int) < ((k.p : Nat) : Int) := by omega
          go_upto_region 6 with fail
          go_quiet (fail)
          have HQ4 := Lib.hid (And.intro (show Told (wr.drewN nq) _ lo from Sq.drewN HL.out.2.1 nq) (HL.out.2.2.drewN nq))
          clear e0 e1 e2 e3 e4 e5 c0
          generalize wr.drewN nq = w4 at *
          have e0 := cell_keep (HQ4.out.2.below (fun b hb => by simp at hb) (Nat.le_refl _)) HEB.out.1.1
          have e1 := cell_keep (HQ4.out.2.below (fun b hb => by simp at hb) (Nat.le_refl _)) HEB.out.1.2.1
          have e2 := cell_keep (HQ4.out.2.below (fun b hb => by simp at hb) (Nat.le_refl _)) HEB.out.1.2.2.1
          have e3 := cell_keep (HQ4.out.2.below (fun b hb => by simp at hb) (Nat.le_refl _)) HEB.out.1.2.2.2.1
          have e4 := cell_keep (HQ4.out.2.below (fun b hb => by simp at hb) (Nat.le_refl _)) HEB.out.1.2.2.2.2.1
          have e5 := cell_keep (HQ4.out.2.below (fun b hb => by simp at hb) (Nat.le_refl _)) HEB.out.1.2.2.2.2.2
          have c0 := cell_keep (HQ4.out.2.below (fun b hb => by simp at hb) (Nat.le_refl _)) HEB.out.2
          have x0 := cell_keep (HQ4.out.2.below (fun b hb => by simp at hb) (Nat.le_refl _)) HX.out.1
          have x1 := cell_keep (HQ4.out.2.below (fun b hb => by simp at hb) (Nat.le_refl _)) HX.out.2.1
          have x2 := cell_keep (HQ4.out.2.below (fun b hb => by simp at hb) (Nat.le_refl _)) HX.out.2.2.1
          have x3 := cell_keep (HQ4.out.2.below (fun b hb => by simp at hb) (Nat.le_refl _)) HX.out.2.2.2.1
          have x4 := cell_keep (HQ4.out.2.below (fun b hb => by simp at hb) (Nat.le_refl _)) HX.out.2.2.2.2.1
          have x5 := cell_keep (HQ4.out.2.below (fun b hb => by simp at hb) (Nat.le_refl _)) HX.out.2.2.2.2.2
          have hA : Below w4.heap.size w4 (w4.alloc (.cells #[.int .i64 ((x.p : Nat) : Int), .int .i64 (3 * ((x.k : Nat) : Int)), .int .i64 x.v, .bool x.a, .bool x.b, .bool x.c] 40)) := (Below.refl _ _).alloc (Nat.le_refl _) _
          have hown := Told.below HQ4.out.1 hA
          have hnew := news_alloc w4 #[.int .i64 ((x.p : Nat) : Int), .int .i64 (3 * ((x.k : Nat) : Int)), .int .i64 x.v, .bool x.a, .bool x.b, .bool x.c] 40
          clear hA
          have HGO := Lib.hid (fun vq1 wq1 (hownq : Sq wq1 40 6 vq1 (lo.length + 1) (rc lo ++ rc [x])) (hgrq : Chg (vblk (.slice ao lo.length cap)) (vblk vq1) (w4.alloc (.cells #[.int .i64 ((x.p : Nat) : Int), .int .i64 (3 * ((x.k : Nat) : Int)), .int .i64 x.v, .bool x.a, .bool x.b, .bool x.c] 40)) wq1) => grow hownq hgrq HQ4.out.2)
          go_upto_region 8 with (at_builtin; refine wpList_append_any _ rfl (.tmp 31) (.tmp 33) 34 rfl 40 i0 (.agg #[.int .i64 0, .int .i64 0, .int .i64 0, .bool false, .bool false, .bool false]) 6 32 Try.underlying34 hi0 hz0 hz1 hz2 rfl (by decide) (.slice ao lo.length cap) lo.length (rc lo) rfl hown (some ⟨w4.heap.size, 0, none⟩) 1 1 (rc [x]) rfl (fun h => by cases h) rfl (fun a ha => by cases ha; exact (by rw [rc_one]; exact hnew)) (rc_onecell _) (by unfold maxLen; omega) (by omega) ?_; intro vq1 wq1 hownq hgrq; have HG1 := Lib.hid (HGO.out vq1 wq1 hownq hgrq); clear hgrq; obtain ⟨ao1, cap1, rfl, _, _⟩ := Sq.slice hownq; clear hownq hown hnew HGO)
          have hb7 : Below w1.heap.size w1 wq1 := HG1.out.2.below (fun b hb => by simp at hb) (Nat.le_refl _)
          clear x0 x1 x2 x3 x4 x5 e0 e1 e2 e3 e4 e5 c0
          have e0 := cell_keep hb7 HEB.out.1.1
          have e1 := cell_keep hb7 HEB.out.1.2.1
          have e2 := cell_keep hb7 HEB.out.1.2.2.1
          have e3 := cell_keep hb7 HEB.out.1.2.2.2.1
          have e4 := cell_keep hb7 HEB.out.1.2.2.2.2.1
          have e5 := cell_keep hb7 HEB.out.1.2.2.2.2.2
          have c0 := cell_keep hb7 HEB.out.2
          clear hb7
          obtain ⟨lo2, hlo2⟩ : ∃ lo2, lo ++ [x] = lo2 := ⟨_, rfl⟩
          have hl2 : lo2.length = lo.length + 1 := by rw [← hlo2]; simp
          rw [hlo2] at HG1
          rw [← hl2] at HG1 ⊢
          have HLO := Lib.hid hlo2
          clear hlo2
          have hA : Below wq1.heap.size wq1 (wq1.alloc (.cells #[.int .i64 ((k.p : Nat) : Int), .int .i64 (3 * ((k.k : Nat) : Int)), .int .i64 k.v, .bool k.a, .bool k.b, .bool k.c] 40)) := (Below.refl _ _).alloc (Nat.le_refl _) _
          have hown := Told.below HG1.out.1 hA
          have hnew := news_alloc wq1 #[.int .i64 ((k.p : Nat) : Int), .int .i64 (3 * ((k.k : Nat) : Int)), .int .i64 k.v, .bool k.a, .bool k.b, .bool k.c] 40
          clear hA
          have HGO := Lib.hid (fun vq2 wq2 (hownq : Sq wq2 40 6 vq2 (lo2.length + 1) (rc lo2 ++ rc [k])) (hgrq : Chg (vblk (.slice ao1 lo2.length cap1)) (vblk vq2) (wq1.alloc (.cells #[.int .i64 ((k.p : Nat) : Int), .int .i64 (3 * ((k.k : Nat) : Int)), .int .i64 k.v, .bool k.a, .bool k.b, .bool k.c] 40)) wq2) => grow hownq hgrq HG1.out.2)
          go_wp2_with (at_builtin; refine wpList_append_any _ rfl (.tmp 35) (.tmp 43) 34 rfl 40 i0 (.agg #[.int .i64 0, .int .i64 0, .int .i64 0, .bool false, .bool false, .bool false]) 6 32 Try.underlying34 hi0 hz0 hz1 hz2 rfl (by decide) (.slice ao1 lo2.length cap1) lo2.length (rc lo2) rfl hown (some ⟨wq1.heap.size, 0, none⟩) 1 1 (rc [k]) rfl (fun h => by cases h) rfl (fun a ha => by cases ha; exact (by rw [rc_one]; exact hnew)) (rc_onecell _) (by unfold maxLen; omega) (by omega) ?_; intro vq2 wq2 hownq hgrq; have HG2 := Lib.hid (HGO.out vq2 wq2 hownq hgrq); clear hgrq; obtain ⟨ao2, cap2, rfl, _, _⟩ := Sq.slice hownq; clear hownq hown hnew HGO)
          exact ⟨⟨i + 1, lo2 ++ [k], true, hil, by simp, by first | rfl | trivial, Lib.hid ⟨by rw [← HLO.out]; exact HL.out.1.next_now HK.out hlt, by have := HG2.out.1; rw [hl2] at this; exact this, by have := HG2.out.2; rw [hl2] at this; exact this⟩⟩, by simp [intOf]; omega⟩
        · have hltI : ¬ (((x.p : Nat) : Int) < ((k.p : Nat) : Int)) := by omega
          go_upto_region 6 with fail
          go_quiet (fail)
          have HQ4 := Lib.hid (And.intro (show Told (wr.drewN nq) _ lo from Sq.drewN HL.out.2.1 nq) (HL.out.2.2.drewN nq))
          clear e0 e1 e2 e3 e4 e5 c0
          generalize wr.drewN nq = w4 at *
          have e0 := cell_keep (HQ4.out.2.below (fun b hb => by simp at hb) (Nat.le_refl _)) HEB.out.1.1
          have e1 := cell_keep (HQ4.out.2.below (fun b hb => by simp at hb) (Nat.le_refl _)) HEB.out.1.2.1
          have e2 := cell_keep (HQ4.out.2.below (fun b hb => by simp at hb) (Nat.le_refl _)) HEB.out.1.2.2.1
          have e3 := cell_keep (HQ4.out.2.below (fun b hb => by simp at hb) (Nat.le_refl _)) HEB.out.1.2.2.2.1
          have e4 := cell_keep (HQ4.out.2.below (fun b hb => by simp at hb) (Nat.le_refl _)) HEB.out.1.2.2.2.2.1
          have e5 := cell_keep (HQ4.out.2.below (fun b hb => by simp at hb) (Nat.le_refl _)) HEB.out.1.2.2.2.2.2
          have c0 := cell_keep (HQ4.out.2.below (fun b hb => by simp at hb) (Nat.le_refl _)) HEB.out.2
          have hA : Below w4.heap.size w4 (w4.alloc (.cells #[.int .i64 ((k.p : Nat) : Int), .int .i64 (3 * ((k.k : Nat) : Int)), .int .i64 k.v, .bool k.a, .bool k.b, .bool k.c] 40)) := (Below.refl _ _).alloc (Nat.le_refl _) _
          have hown := Told.below HQ4.out.1 hA
          have hnew := news_alloc w4 #[.int .i64 ((k.p : Nat) : Int), .int .i64 (3 * ((k.k : Nat) : Int)), .int .i64 k.v, .bool k.a, .bool k.b, .bool k.c] 40
          clear hA
          have HGO := Lib.hid (fun vq1 wq1 (hownq : Sq wq1 40 6 vq1 (lo.length + 1) (rc lo ++ rc [k])) (hgrq : Chg (vblk (.slice ao lo.length cap)) (vblk vq1) (w4.alloc (.cells #[.int .i64 ((k.p : Nat) : Int), .int .i64 (3 * ((k.k : Nat) : Int)), .int .i64 k.v, .bool k.a, .bool k.b, .bool k.c] 40)) wq1) => grow hownq hgrq HQ4.out.2)
          go_wp2_with (at_builtin; refine wpList_append_any _ rfl (.tmp 35) (.tmp 43) 34 rfl 40 i0 (.agg #[.int .i64 0, .int .i64 0, .int .i64 0, .bool false, .bool false, .bool false]) 6 32 Try.underlying34 hi0 hz0 hz1 hz2 rfl (by decide) (.slice ao lo.length cap) lo.length (rc lo) rfl hown (some ⟨w4.heap.size, 0, none⟩) 1 1 (rc [k]) rfl (fun h => by cases h) rfl (fun a ha => by cases ha; exact (by rw [rc_one]; exact hnew)) (rc_onecell _) (by unfold maxLen; omega) (by omega) ?_; intro vq1 wq1 hownq hgrq; have HG1 := Lib.hid (HGO.out vq1 wq1 hownq hgrq); clear hgrq; obtain ⟨ao1, cap1, rfl, _, _⟩ := Sq.slice hownq; clear hownq hown hnew HGO)
          exact ⟨⟨i + 1, lo ++ [k], false, hil, by simp, by first | rfl | trivial, Lib.hid ⟨HL.out.1.next_not HK.out hlt, HG1.out.1, HG1.out.2⟩⟩, by simp [intOf]; omega⟩
    · have hil2 : i = L.length := by omega
      subst hil2
      cases d with
      | true =>
        have hlo2 := HL.out.1.fin_done
        obtain ⟨t1, t2, t3, t4⟩ := HM.out.set HL.out.2.2 HL.out.2.1
        rw [c0w] at t3
        have HS := Lib.hid (And.intro t1 t2)
        have HR1 := Lib.hid hlo2
        clear t1 t2 hlo2 c0 c0w hbr hT'
        go_wp2_with fail
        go_end0
        exact ⟨rfl, _, (Chg.of_below (F := F) (by rw [HD.out]; exact HB1.out)).trans HS.out.2, by rw [← HR1.out]; exact HS.out.1⟩
      | false =>
        have HFN := Lib.hid HL.out.1.fin
        have x0 := cell_keep hbr HX.out.1
        have x1 := cell_keep hbr HX.out.2.1
        have x2 := cell_keep hbr HX.out.2.2.1
        have x3 := cell_keep hbr HX.out.2.2.2.1
        have x4 := cell_keep hbr HX.out.2.2.2.2.1
        have x5 := cell_keep hbr HX.out.2.2.2.2.2
        have HMM := Lib.hid (And.intro HM.out c0w)
        clear hbr hT' c0w
        have hA : Below wr.heap.size wr (wr.alloc (.cells #[.int .i64 ((x.p : Nat) : Int), .int .i64 (3 * ((x.k : Nat) : Int)), .int .i64 x.v, .bool x.a, .bool x.b, .bool x.c] 40)) := (Below.refl _ _).alloc (Nat.le_refl _) _
        have hown := Told.below HL.out.2.1 hA
        have hnew := news_alloc wr #[.int .i64 ((x.p : Nat) : Int), .int .i64 (3 * ((x.k : Nat) : Int)), .int .i64 x.v, .bool x.a, .bool x.b, .bool x.c] 40
        clear hA
        have HGO := Lib.hid (fun vq1 wq1 (hownq : Sq wq1 40 6 vq1 (lo.length + 1) (rc lo ++ rc [x])) (hgrq : Chg (vblk (.slice ao lo.length cap)) (vblk vq1) (wr.alloc (.cells #[.int .i64 ((x.p : Nat) : Int), .int .i64 (3 * ((x.k : Nat) : Int)), .int .i64 x.v, .bool x.a, .bool x.b, .bool x.c] 40)) wq1) => grow hownq hgrq HL.out.2.2)
        go_upto_region 12 with (at_builtin; refine wpList_append_any _ rfl (.tmp 47) (.tmp 49) 34 rfl 40 i0 (.agg #[.int .i64 0, .int .i64 0, .int .i64 0, .bool false, .bool false, .bool false]) 6 32 Try.underlying34 hi0 hz0 hz1 hz2 rfl (by decide) (.slice ao lo.length cap) lo.length (rc lo) rfl hown (some ⟨wr.heap.size, 0, none⟩) 1 1 (rc [x]) rfl (fun h => by cases h) rfl (fun a ha => by cases ha; exact (by rw [rc_one]; exact hnew)) (rc_onecell _) (by unfold maxLen; omega) (by omega) ?_; intro vq1 wq1 hownq hgrq; have HG1 := Lib.hid (HGO.out vq1 wq1 hownq hgrq); clear hgrq; obtain ⟨ao1, cap1, rfl, _, _⟩ := Sq.slice hownq; clear hownq hown hnew HGO)
        obtain ⟨t1, t2, t3, t4⟩ := HM.out.set HG1.out.2 HG1.out.1
        rw [HMM.out.2] at t3
        have HS := Lib.hid (And.intro t1 t2)
        clear t1 t2 c0
        go_wp2_with fail
        go_end0
        exact ⟨rfl, _, (Chg.of_below (F := F) (by rw [HD.out]; exact HB1.out)).trans HS.out.2, by rw [← HFN.out]; exact HS.out.1⟩

end Go.Proofs.Ytdnnfoojdfmajaa
