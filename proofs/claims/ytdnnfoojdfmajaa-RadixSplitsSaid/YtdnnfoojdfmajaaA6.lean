/- Parts of the proofs of layer 19 (radix): contracts of its functions, and the laws' walks. -/
import Derived.Test.YtdnnfoojdfmajaaProg
import Derived.WalkKit
import Derived.WalkSpells
import Derived.WalkLawsBesides
import Derived.BigQuiet
import Derived.Deep.QuietTactic
import Derived.Lib.Hide
import Derived.Deep.RegionHeld3
import Derived.Deep.DeepCutAuto
import Derived.KernelRfl
import Derived.Deep.OwnRows
import Derived.Laws.CopyOwn
import Derived.Laws.CopyRow
import Derived.StillTailTactics
import Derived.Deep.RegionLaw
import Derived.Handy
import Derived.Deep.CutRange
import Derived.Deep.CutBlock
import Derived.Test.YtdnnfoojdfmajaaA5
namespace Go.Proofs.Ytdnnfoojdfmajaa
open Go.RowKit
set_option linter.unusedVariables false
set_option linter.unusedSimpArgs false

section
variable {w w' w1 w2 : World} {t r : Nat} {σ σ' : St} {L L' : List X} {F F' G G' : List Nat}
theorem Tw.below (h : Tw w t r σ L F G) (hb : Below w.heap.size w w') : Tw w' t r σ L F G := ⟨h.hp.below hb, h.rt.below hb, h.ab, h.gd, h.sep⟩
theorem Tw.drew (h : Tw w t r σ L F G) : Tw w.drew t r σ L F G := ⟨h.hp.drew, h.rt.drew, h.ab, h.gd, h.sep⟩
theorem Tw.drewN (h : Tw w t r σ L F G) (n : Nat) : Tw (w.drewN n) t r σ L F G := ⟨h.hp.drewN n, h.rt.drewN n, h.ab, h.gd, h.sep⟩
theorem Tw.lt (h : Tw w t r σ L F G) : ∀ b, b ∈ F ++ G → b < w.heap.size := fun b hb => by
  rcases List.mem_append.1 hb with hb | hb
  · exact h.hp.lt b hb
  · exact h.rt.lt b hb
theorem Chg.both {F1 F1' F2 F2' : List Nat} {w w1 w2 : World} (h : Chg F1 F1' w w1) (k : Chg F2 F2' w1 w2) : Chg (F1 ++ F2) (F1' ++ F2') w w2 := by
  obtain ⟨h1, h2, h3, h4, h5, h6⟩ := h
  obtain ⟨k1, k2, k3, k4, k5, k6⟩ := k
  refine ⟨k1.trans h1, k2.trans h2, k3.trans h3, Nat.le_trans h4 k4, fun x hx hf => ?_, fun x hx => ?_⟩
  · exact (k5 x (Nat.lt_of_lt_of_le hx h4) fun hm => hf (by simp [hm])).trans (h5 x hx fun hm => hf (by simp [hm]))
  · rcases List.mem_append.1 hx with hx | hx
    · rcases h6 x hx with h | h
      · exact .inl (by simp [h])
      · exact .inr h
    · rcases k6 x hx with h | h
      · exact .inl (by simp [h])
      · exact .inr (Nat.le_trans h4 h)
theorem Chg.both2 {F1 F1' F2 F2' : List Nat} {w w1 w2 : World} (h : Chg F2 F2' w w1) (k : Chg F1 F1' w1 w2) : Chg (F1 ++ F2) (F1' ++ F2') w w2 := by
  obtain ⟨h1, h2, h3, h4, h5, h6⟩ := h
  obtain ⟨k1, k2, k3, k4, k5, k6⟩ := k
  refine ⟨k1.trans h1, k2.trans h2, k3.trans h3, Nat.le_trans h4 k4, fun x hx hf => ?_, fun x hx => ?_⟩
  · exact (k5 x (Nat.lt_of_lt_of_le hx h4) fun hm => hf (by simp [hm])).trans (h5 x hx fun hm => hf (by simp [hm]))
  · rcases List.mem_append.1 hx with hx | hx
    · rcases k6 x hx with h | h
      · exact .inl (by simp [h])
      · exact .inr (Nat.le_trans h4 h)
    · rcases h6 x hx with h | h
      · exact .inl (by simp [h])
      · exact .inr h
theorem Tw.fin (h : Tw w t r σ L F G) (hca : Chg F F' w w1) (hp : Hp w1 t σ' ((L'.length : Nat) : Int) ((cntN σ'.N : Nat) : Int) F') (ab : Ab σ' L') (gd : Good L') (hcb : Chg G G' w1 w2) (rt : Rt w2 r G' L') : Tw w2 t r σ' L' F' G' ∧ Chg (F ++ G) (F' ++ G') w w2 := by
  have s1 : Sep F' G := hca.sep h.sep h.rt.lt
  exact ⟨⟨hp.chg hcb s1, rt, ab, gd, (hcb.sep s1.symm hp.lt).symm⟩, hca.both hcb⟩
theorem Tw.fin2 (h : Tw w t r σ L F G) (hcb : Chg G G' w w1) (rt : Rt w1 r G' L') (hca : Chg F F' w1 w2) (hp : Hp w2 t σ' ((L'.length : Nat) : Int) ((cntN σ'.N : Nat) : Int) F') (ab : Ab σ' L') (gd : Good L') : Tw w2 t r σ' L' F' G' ∧ Chg (F ++ G) (F' ++ G') w w2 := by
  have s1 : Sep G' F := hcb.sep h.sep.symm h.hp.lt
  exact ⟨⟨hp, rt.chg hca s1, ab, gd, hca.sep s1.symm rt.lt⟩, hcb.both2 hca⟩
/-- How a call of both ends. -/
def OneOk (w : World) (t r : Nat) (L : List X) (F G : List Nat) (page : Int) (e : Ending) (w' : World) : Prop := e = .returned (.bool true) ∧ ∃ σ' L' F' G', Tw w' t r σ' L' F' G' ∧ Chg (F ++ G) (F' ++ G') w w' ∧ Kept L L' page
/-- What Find says. -/
def Fi (L : List X) (page fi fc : Int) : Prop := (¬ (0 ≤ page ∧ page < 4096) ∧ fi = -1 ∧ fc = 3) ∨ (∃ g : Nat, page = (g : Nat) ∧ g < 4096 ∧ (∀ x ∈ L, ¬ Cov x g) ∧ fi = -1 ∧ fc = 6) ∨ (∃ (g i : Nat) (x : X), page = (g : Nat) ∧ g < 4096 ∧ L[i]? = some x ∧ Cov x g ∧ fi = (i : Nat) ∧ fc = 0)
theorem find_gen (page : Int) (r : Nat) (L : List X) (hg : Good L) : ∃ fi fc, Fi L page fi fc ∧ ∀ w G, Rt w r G L → Calls Try.prog 35 #[.pointer (some ⟨r, 0, none⟩), .int .i64 page] w fun e w' => e = .returned (.tuple #[.int .i64 fi, .int .i64 fc]) ∧ Below w.heap.size w w' := by
  rcases pg_cases L page with h | ⟨g, rfl, hg4, hn⟩ | ⟨g, i, x, rfl, hg4, hi, hc⟩
  · exact ⟨-1, 3, .inl ⟨h, rfl, rfl⟩, fun w G hr => RFind_out page r w h⟩
  · exact ⟨-1, 6, .inr (.inl ⟨g, rfl, hg4, hn, rfl, rfl⟩), fun w G hr => RFind_nf (g : Nat) r G L w (by omega) hr hg (nfI hn)⟩
  · exact ⟨(i : Nat), 0, .inr (.inr ⟨g, i, x, rfl, hg4, hi, hc, rfl, rfl⟩), fun w G hr => RFind_ok (g : Nat) i x r G L w (by omega) hr hg hi (CovI.iff.2 hc)⟩
theorem six_chg {w w' : World} {D : Nat} {u0 u1 u2 u3 u4 u5 : Value} {F F' : List Nat} (k : w.cell? ⟨D, 0, none⟩ = some u0 ∧ w.cell? ⟨D, 1, none⟩ = some u1 ∧ w.cell? ⟨D, 2, none⟩ = some u2 ∧ w.cell? ⟨D, 3, none⟩ = some u3 ∧ w.cell? ⟨D, 4, none⟩ = some u4 ∧ w.cell? ⟨D, 5, none⟩ = some u5) (hc : Chg F F' w w') (hD : D ∉ F) :
    w'.cell? ⟨D, 0, none⟩ = some u0 ∧ w'.cell? ⟨D, 1, none⟩ = some u1 ∧ w'.cell? ⟨D, 2, none⟩ = some u2 ∧ w'.cell? ⟨D, 3, none⟩ = some u3 ∧ w'.cell? ⟨D, 4, none⟩ = some u4 ∧ w'.cell? ⟨D, 5, none⟩ = some u5 :=
  ⟨hc.cell k.1 hD, hc.cell k.2.1 hD, hc.cell k.2.2.1 hD, hc.cell k.2.2.2.1 hD, hc.cell k.2.2.2.2.1 hD, hc.cell k.2.2.2.2.2 hD⟩
end
set_option maxRecDepth 100000 in
set_option maxHeartbeats 8000000 in
theorem one_split (page o v mark : Int) (on : Bool) (t r : Nat) (σ : St) (L : List X) (F G : List Nat) (w : World) (h : Tw w t r σ L F G) : Calls Try.prog 40 #[.pointer (some ⟨t, 0, none⟩), .pointer (some ⟨r, 0, none⟩), .agg #[.int .i64 5, .int .i64 page, .int .i64 o, .int .i64 v, .int .i64 mark, .bool on]] w fun e w' => OneOk w t r L F G page e w' := by
  obtain ⟨fi, fc, _, hfi⟩ := find_gen page r L h.gd
  have HFI := Lib.hid hfi
  obtain ⟨c, L', hs⟩ := split_both page v h.ab h.gd (t := t) (r := r)
  have HS := Lib.hid hs
  clear hfi hs
  have hz := heap_alloc_new w (.cells #[.int .i64 5, .int .i64 page, .int .i64 o, .int .i64 v, .int .i64 mark, .bool on] 52)
  have hA : Below w.heap.size w (w.alloc (.cells #[.int .i64 5, .int .i64 page, .int .i64 o, .int .i64 v, .int .i64 mark, .bool on] 52)) := (Below.refl _ _).alloc (Nat.le_refl _) _
  have x0 : (w.alloc (.cells #[.int .i64 5, .int .i64 page, .int .i64 o, .int .i64 v, .int .i64 mark, .bool on] 52)).cell? ⟨w.heap.size, 0, none⟩ = some (.int .i64 5) := cell_of_row _ _ 0 _ 52 _ hz
  have x1 : (w.alloc (.cells #[.int .i64 5, .int .i64 page, .int .i64 o, .int .i64 v, .int .i64 mark, .bool on] 52)).cell? ⟨w.heap.size, 1, none⟩ = some (.int .i64 page) := cell_of_row _ _ 1 _ 52 _ hz
  have x2 : (w.alloc (.cells #[.int .i64 5, .int .i64 page, .int .i64 o, .int .i64 v, .int .i64 mark, .bool on] 52)).cell? ⟨w.heap.size, 2, none⟩ = some (.int .i64 o) := cell_of_row _ _ 2 _ 52 _ hz
  have x3 : (w.alloc (.cells #[.int .i64 5, .int .i64 page, .int .i64 o, .int .i64 v, .int .i64 mark, .bool on] 52)).cell? ⟨w.heap.size, 3, none⟩ = some (.int .i64 v) := cell_of_row _ _ 3 _ 52 _ hz
  have x4 : (w.alloc (.cells #[.int .i64 5, .int .i64 page, .int .i64 o, .int .i64 v, .int .i64 mark, .bool on] 52)).cell? ⟨w.heap.size, 4, none⟩ = some (.int .i64 mark) := cell_of_row _ _ 4 _ 52 _ hz
  have x5 : (w.alloc (.cells #[.int .i64 5, .int .i64 page, .int .i64 o, .int .i64 v, .int .i64 mark, .bool on] 52)).cell? ⟨w.heap.size, 5, none⟩ = some (.bool on) := cell_of_row _ _ 5 _ 52 _ hz
  have HB0 := Lib.hid (And.intro hA (And.intro (lt_of_block hz) (And.intro (fun hm => Nat.lt_irrefl _ (h.hp.lt _ hm) : w.heap.size ∉ F) (fun hm => Nat.lt_irrefl _ (h.rt.lt _ hm) : w.heap.size ∉ G))))
  have HT0 := Lib.hid (h.below hA)
  have HX := Lib.hid (And.intro x0 (And.intro x1 (And.intro x2 (And.intro x3 (And.intro x4 x5)))))
  clear hz hA h x2 x3 x4 x5
  go_enter Try.func40, Try.ntmps40
  go_upto_region 1 with fail
  generalize hD : w.heap.size = D at *
  have HD := Lib.hid hD
  clear hD
  generalize w.alloc (.cells #[.int .i64 5, .int .i64 page, .int .i64 o, .int .i64 v, .int .i64 mark, .bool on] 52) = w1 at *
  go_upto_region 2 with (go_at_call 35; refine (HFI.out w1 G HT0.out.rt).mono ?_; rintro e w2 ⟨rfl, hb⟩)
  have HB := Lib.hid (And.intro (HB0.out.1.trans (hb.mono (by have := HB0.out.1.size; have := HD.out; omega))) (And.intro (Nat.lt_of_lt_of_le HB0.out.2.1 hb.size) HB0.out.2.2))
  have HT := Lib.hid (HT0.out.below hb)
  have x0 := cell_keep hb HX.out.1
  have x1 := cell_keep hb HX.out.2.1
  have x2 := cell_keep hb HX.out.2.2.1
  have x3 := cell_keep hb HX.out.2.2.2.1
  have x4 := cell_keep hb HX.out.2.2.2.2.1
  have x5 := cell_keep hb HX.out.2.2.2.2.2
  clear hb HX HT0 HB0
  go_wp2_with fail
  go_region_held3 (fun w' => w'.cell? ⟨D, 0, none⟩ = some (.int .i64 5) ∧ w'.cell? ⟨D, 1, none⟩ = some (.int .i64 page) ∧ w'.cell? ⟨D, 2, none⟩ = some (.int .i64 o) ∧ w'.cell? ⟨D, 3, none⟩ = some (.int .i64 v) ∧ w'.cell? ⟨D, 4, none⟩ = some (.int .i64 mark) ∧ w'.cell? ⟨D, 5, none⟩ = some (.bool on)) (first | exact six_chg (by assumption) hca HB.out.2.2.1 | exact six_chg (by assumption) hcb HB.out.2.2.2 | go_keep) (first
    | (go_at_call 21; refine (HS.out.2.2.1 _ F HT.out.hp.drew).mono ?_; rintro e wa ⟨rfl, F1, σ1, hca, hka, haba⟩)
    | (go_at_call 51; refine (HS.out.2.2.2 _ G ((HT.out.rt.drew).chg hca HT.out.sep.symm)).mono ?_; rintro e wb ⟨rfl, G1, hcb, hrb⟩))
  go_wp2_with fail
  go_ret
  obtain ⟨a1, a2⟩ := HT.out.drew.fin hca hka haba HS.out.1 hcb hrb
  exact ⟨rfl, σ1, _, F1, G1, a1, (Chg.of_below (by rw [HD.out]; exact HB.out.1.drew)).trans a2, HS.out.2.1⟩

set_option maxRecDepth 100000 in
set_option maxHeartbeats 8000000 in
theorem one_set (kind : Int) (hk : kind = 0 ∨ kind = 1 ∨ kind = 2) (page o v mark : Int) (on : Bool) (t r : Nat) (σ : St) (L : List X) (F G : List Nat) (w : World) (h : Tw w t r σ L F G) : Calls Try.prog 40 #[.pointer (some ⟨t, 0, none⟩), .pointer (some ⟨r, 0, none⟩), .agg #[.int .i64 kind, .int .i64 page, .int .i64 o, .int .i64 v, .int .i64 mark, .bool on]] w fun e w' => OneOk w t r L F G page e w' := by
  obtain ⟨fi, fc, _, hfi⟩ := find_gen page r L h.gd
  have HFI := Lib.hid hfi
  obtain ⟨c, L', hs⟩ := set_both page o v h.ab h.gd (t := t) (r := r)
  have HS := Lib.hid hs
  clear hfi hs
  rcases hk with rfl | rfl | rfl
  · have hz := heap_alloc_new w (.cells #[.int .i64 0, .int .i64 page, .int .i64 o, .int .i64 v, .int .i64 mark, .bool on] 52)
    have hA : Below w.heap.size w (w.alloc (.cells #[.int .i64 0, .int .i64 page, .int .i64 o, .int .i64 v, .int .i64 mark, .bool on] 52)) := (Below.refl _ _).alloc (Nat.le_refl _) _
    have x0 : (w.alloc (.cells #[.int .i64 0, .int .i64 page, .int .i64 o, .int .i64 v, .int .i64 mark, .bool on] 52)).cell? ⟨w.heap.size, 0, none⟩ = some (.int .i64 0) := cell_of_row _ _ 0 _ 52 _ hz
    have x1 : (w.alloc (.cells #[.int .i64 0, .int .i64 page, .int .i64 o, .int .i64 v, .int .i64 mark, .bool on] 52)).cell? ⟨w.heap.size, 1, none⟩ = some (.int .i64 page) := cell_of_row _ _ 1 _ 52 _ hz
    have x2 : (w.alloc (.cells #[.int .i64 0, .int .i64 page, .int .i64 o, .int .i64 v, .int .i64 mark, .bool on] 52)).cell? ⟨w.heap.size, 2, none⟩ = some (.int .i64 o) := cell_of_row _ _ 2 _ 52 _ hz
    have x3 : (w.alloc (.cells #[.int .i64 0, .int .i64 page, .int .i64 o, .int .i64 v, .int .i64 mark, .bool on] 52)).cell? ⟨w.heap.size, 3, none⟩ = some (.int .i64 v) := cell_of_row _ _ 3 _ 52 _ hz
    have x4 : (w.alloc (.cells #[.int .i64 0, .int .i64 page, .int .i64 o, .int .i64 v, .int .i64 mark, .bool on] 52)).cell? ⟨w.heap.size, 4, none⟩ = some (.int .i64 mark) := cell_of_row _ _ 4 _ 52 _ hz
    have x5 : (w.alloc (.cells #[.int .i64 0, .int .i64 page, .int .i64 o, .int .i64 v, .int .i64 mark, .bool on] 52)).cell? ⟨w.heap.size, 5, none⟩ = some (.bool on) := cell_of_row _ _ 5 _ 52 _ hz
    have HB0 := Lib.hid (And.intro hA (And.intro (lt_of_block hz) (And.intro (fun hm => Nat.lt_irrefl _ (h.hp.lt _ hm) : w.heap.size ∉ F) (fun hm => Nat.lt_irrefl _ (h.rt.lt _ hm) : w.heap.size ∉ G))))
    have HT0 := Lib.hid (h.below hA)
    have HX := Lib.hid (And.intro x0 (And.intro x1 (And.intro x2 (And.intro x3 (And.intro x4 x5)))))
    clear hz hA h x2 x3 x4 x5
    go_enter Try.func40, Try.ntmps40
    go_upto_region 1 with fail
    generalize hD : w.heap.size = D at *
    have HD := Lib.hid hD
    clear hD
    generalize w.alloc (.cells #[.int .i64 0, .int .i64 page, .int .i64 o, .int .i64 v, .int .i64 mark, .bool on] 52) = w1 at *
    go_upto_region 2 with (go_at_call 35; refine (HFI.out w1 G HT0.out.rt).mono ?_; rintro e w2 ⟨rfl, hb⟩)
    have HB := Lib.hid (And.intro (HB0.out.1.trans (hb.mono (by have := HB0.out.1.size; have := HD.out; omega))) (And.intro (Nat.lt_of_lt_of_le HB0.out.2.1 hb.size) HB0.out.2.2))
    have HT := Lib.hid (HT0.out.below hb)
    have x0 := cell_keep hb HX.out.1
    have x1 := cell_keep hb HX.out.2.1
    have x2 := cell_keep hb HX.out.2.2.1
    have x3 := cell_keep hb HX.out.2.2.2.1
    have x4 := cell_keep hb HX.out.2.2.2.2.1
    have x5 := cell_keep hb HX.out.2.2.2.2.2
    clear hb HX HT0 HB0
    go_wp2_with fail
    go_region_held3 (fun w' => w'.cell? ⟨D, 0, none⟩ = some (.int .i64 0) ∧ w'.cell? ⟨D, 1, none⟩ = some (.int .i64 page) ∧ w'.cell? ⟨D, 2, none⟩ = some (.int .i64 o) ∧ w'.cell? ⟨D, 3, none⟩ = some (.int .i64 v) ∧ w'.cell? ⟨D, 4, none⟩ = some (.int .i64 mark) ∧ w'.cell? ⟨D, 5, none⟩ = some (.bool on)) (first | exact six_chg (by assumption) hca HB.out.2.2.1 | exact six_chg (by assumption) hcb HB.out.2.2.2 | go_keep) (first
      | (go_at_call 26; refine (HS.out.2.2.1 _ F HT.out.hp.drew).mono ?_; rintro e wa ⟨rfl, F1, σ1, hca, hka, haba⟩)
      | (go_at_call 53; refine (HS.out.2.2.2 _ G ((HT.out.rt.drew).chg hca HT.out.sep.symm)).mono ?_; rintro e wb ⟨rfl, G1, hcb, hrb⟩))
    go_wp2_with fail
    go_ret
    obtain ⟨a1, a2⟩ := HT.out.drew.fin hca hka haba HS.out.1 hcb hrb
    exact ⟨rfl, σ1, _, F1, G1, a1, (Chg.of_below (by rw [HD.out]; exact HB.out.1.drew)).trans a2, HS.out.2.1⟩
  · have hz := heap_alloc_new w (.cells #[.int .i64 1, .int .i64 page, .int .i64 o, .int .i64 v, .int .i64 mark, .bool on] 52)
    have hA : Below w.heap.size w (w.alloc (.cells #[.int .i64 1, .int .i64 page, .int .i64 o, .int .i64 v, .int .i64 mark, .bool on] 52)) := (Below.refl _ _).alloc (Nat.le_refl _) _
    have x0 : (w.alloc (.cells #[.int .i64 1, .int .i64 page, .int .i64 o, .int .i64 v, .int .i64 mark, .bool on] 52)).cell? ⟨w.heap.size, 0, none⟩ = some (.int .i64 1) := cell_of_row _ _ 0 _ 52 _ hz
    have x1 : (w.alloc (.cells #[.int .i64 1, .int .i64 page, .int .i64 o, .int .i64 v, .int .i64 mark, .bool on] 52)).cell? ⟨w.heap.size, 1, none⟩ = some (.int .i64 page) := cell_of_row _ _ 1 _ 52 _ hz
    have x2 : (w.alloc (.cells #[.int .i64 1, .int .i64 page, .int .i64 o, .int .i64 v, .int .i64 mark, .bool on] 52)).cell? ⟨w.heap.size, 2, none⟩ = some (.int .i64 o) := cell_of_row _ _ 2 _ 52 _ hz
    have x3 : (w.alloc (.cells #[.int .i64 1, .int .i64 page, .int .i64 o, .int .i64 v, .int .i64 mark, .bool on] 52)).cell? ⟨w.heap.size, 3, none⟩ = some (.int .i64 v) := cell_of_row _ _ 3 _ 52 _ hz
    have x4 : (w.alloc (.cells #[.int .i64 1, .int .i64 page, .int .i64 o, .int .i64 v, .int .i64 mark, .bool on] 52)).cell? ⟨w.heap.size, 4, none⟩ = some (.int .i64 mark) := cell_of_row _ _ 4 _ 52 _ hz
    have x5 : (w.alloc (.cells #[.int .i64 1, .int .i64 page, .int .i64 o, .int .i64 v, .int .i64 mark, .bool on] 52)).cell? ⟨w.heap.size, 5, none⟩ = some (.bool on) := cell_of_row _ _ 5 _ 52 _ hz
    have HB0 := Lib.hid (And.intro hA (And.intro (lt_of_block hz) (And.intro (fun hm => Nat.lt_irrefl _ (h.hp.lt _ hm) : w.heap.size ∉ F) (fun hm => Nat.lt_irrefl _ (h.rt.lt _ hm) : w.heap.size ∉ G))))
    have HT0 := Lib.hid (h.below hA)
    have HX := Lib.hid (And.intro x0 (And.intro x1 (And.intro x2 (And.intro x3 (And.intro x4 x5)))))
    clear hz hA h x2 x3 x4 x5
    go_enter Try.func40, Try.ntmps40
    go_upto_region 1 with fail
    generalize hD : w.heap.size = D at *
    have HD := Lib.hid hD
    clear hD
    generalize w.alloc (.cells #[.int .i64 1, .int .i64 page, .int .i64 o, .int .i64 v, .int .i64 mark, .bool on] 52) = w1 at *
    go_upto_region 2 with (go_at_call 35; refine (HFI.out w1 G HT0.out.rt).mono ?_; rintro e w2 ⟨rfl, hb⟩)
    have HB := Lib.hid (And.intro (HB0.out.1.trans (hb.mono (by have := HB0.out.1.size; have := HD.out; omega))) (And.intro (Nat.lt_of_lt_of_le HB0.out.2.1 hb.size) HB0.out.2.2))
    have HT := Lib.hid (HT0.out.below hb)
    have x0 := cell_keep hb HX.out.1
    have x1 := cell_keep hb HX.out.2.1
    have x2 := cell_keep hb HX.out.2.2.1
    have x3 := cell_keep hb HX.out.2.2.2.1
    have x4 := cell_keep hb HX.out.2.2.2.2.1
    have x5 := cell_keep hb HX.out.2.2.2.2.2
    clear hb HX HT0 HB0
    go_wp2_with fail
    go_region_held3 (fun w' => w'.cell? ⟨D, 0, none⟩ = some (.int .i64 1) ∧ w'.cell? ⟨D, 1, none⟩ = some (.int .i64 page) ∧ w'.cell? ⟨D, 2, none⟩ = some (.int .i64 o) ∧ w'.cell? ⟨D, 3, none⟩ = some (.int .i64 v) ∧ w'.cell? ⟨D, 4, none⟩ = some (.int .i64 mark) ∧ w'.cell? ⟨D, 5, none⟩ = some (.bool on)) (first | exact six_chg (by assumption) hca HB.out.2.2.1 | exact six_chg (by assumption) hcb HB.out.2.2.2 | go_keep) (first
      | (go_at_call 26; refine (HS.out.2.2.1 _ F HT.out.hp.drew).mono ?_; rintro e wa ⟨rfl, F1, σ1, hca, hka, haba⟩)
      | (go_at_call 53; refine (HS.out.2.2.2 _ G ((HT.out.rt.drew).chg hca HT.out.sep.symm)).mono ?_; rintro e wb ⟨rfl, G1, hcb, hrb⟩))
    go_wp2_with fail
    go_ret
    obtain ⟨a1, a2⟩ := HT.out.drew.fin hca hka haba HS.out.1 hcb hrb
    exact ⟨rfl, σ1, _, F1, G1, a1, (Chg.of_below (by rw [HD.out]; exact HB.out.1.drew)).trans a2, HS.out.2.1⟩
  · have hz := heap_alloc_new w (.cells #[.int .i64 2, .int .i64 page, .int .i64 o, .int .i64 v, .int .i64 mark, .bool on] 52)
    have hA : Below w.heap.size w (w.alloc (.cells #[.int .i64 2, .int .i64 page, .int .i64 o, .int .i64 v, .int .i64 mark, .bool on] 52)) := (Below.refl _ _).alloc (Nat.le_refl _) _
    have x0 : (w.alloc (.cells #[.int .i64 2, .int .i64 page, .int .i64 o, .int .i64 v, .int .i64 mark, .bool on] 52)).cell? ⟨w.heap.size, 0, none⟩ = some (.int .i64 2) := cell_of_row _ _ 0 _ 52 _ hz
    have x1 : (w.alloc (.cells #[.int .i64 2, .int .i64 page, .int .i64 o, .int .i64 v, .int .i64 mark, .bool on] 52)).cell? ⟨w.heap.size, 1, none⟩ = some (.int .i64 page) := cell_of_row _ _ 1 _ 52 _ hz
    have x2 : (w.alloc (.cells #[.int .i64 2, .int .i64 page, .int .i64 o, .int .i64 v, .int .i64 mark, .bool on] 52)).cell? ⟨w.heap.size, 2, none⟩ = some (.int .i64 o) := cell_of_row _ _ 2 _ 52 _ hz
    have x3 : (w.alloc (.cells #[.int .i64 2, .int .i64 page, .int .i64 o, .int .i64 v, .int .i64 mark, .bool on] 52)).cell? ⟨w.heap.size, 3, none⟩ = some (.int .i64 v) := cell_of_row _ _ 3 _ 52 _ hz
    have x4 : (w.alloc (.cells #[.int .i64 2, .int .i64 page, .int .i64 o, .int .i64 v, .int .i64 mark, .bool on] 52)).cell? ⟨w.heap.size, 4, none⟩ = some (.int .i64 mark) := cell_of_row _ _ 4 _ 52 _ hz
    have x5 : (w.alloc (.cells #[.int .i64 2, .int .i64 page, .int .i64 o, .int .i64 v, .int .i64 mark, .bool on] 52)).cell? ⟨w.heap.size, 5, none⟩ = some (.bool on) := cell_of_row _ _ 5 _ 52 _ hz
    have HB0 := Lib.hid (And.intro hA (And.intro (lt_of_block hz) (And.intro (fun hm => Nat.lt_irrefl _ (h.hp.lt _ hm) : w.heap.size ∉ F) (fun hm => Nat.lt_irrefl _ (h.rt.lt _ hm) : w.heap.size ∉ G))))
    have HT0 := Lib.hid (h.below hA)
    have HX := Lib.hid (And.intro x0 (And.intro x1 (And.intro x2 (And.intro x3 (And.intro x4 x5)))))
    clear hz hA h x2 x3 x4 x5
    go_enter Try.func40, Try.ntmps40
    go_upto_region 1 with fail
    generalize hD : w.heap.size = D at *
    have HD := Lib.hid hD
    clear hD
    generalize w.alloc (.cells #[.int .i64 2, .int .i64 page, .int .i64 o, .int .i64 v, .int .i64 mark, .bool on] 52) = w1 at *
    go_upto_region 2 with (go_at_call 35; refine (HFI.out w1 G HT0.out.rt).mono ?_; rintro e w2 ⟨rfl, hb⟩)
    have HB := Lib.hid (And.intro (HB0.out.1.trans (hb.mono (by have := HB0.out.1.size; have := HD.out; omega))) (And.intro (Nat.lt_of_lt_of_le HB0.out.2.1 hb.size) HB0.out.2.2))
    have HT := Lib.hid (HT0.out.below hb)
    have x0 := cell_keep hb HX.out.1
    have x1 := cell_keep hb HX.out.2.1
    have x2 := cell_keep hb HX.out.2.2.1
    have x3 := cell_keep hb HX.out.2.2.2.1
    have x4 := cell_keep hb HX.out.2.2.2.2.1
    have x5 := cell_keep hb HX.out.2.2.2.2.2
    clear hb HX HT0 HB0
    go_wp2_with fail
    go_region_held3 (fun w' => w'.cell? ⟨D, 0, none⟩ = some (.int .i64 2) ∧ w'.cell? ⟨D, 1, none⟩ = some (.int .i64 page) ∧ w'.cell? ⟨D, 2, none⟩ = some (.int .i64 o) ∧ w'.cell? ⟨D, 3, none⟩ = some (.int .i64 v) ∧ w'.cell? ⟨D, 4, none⟩ = some (.int .i64 mark) ∧ w'.cell? ⟨D, 5, none⟩ = some (.bool on)) (first | exact six_chg (by assumption) hca HB.out.2.2.1 | exact six_chg (by assumption) hcb HB.out.2.2.2 | go_keep) (first
      | (go_at_call 26; refine (HS.out.2.2.1 _ F HT.out.hp.drew).mono ?_; rintro e wa ⟨rfl, F1, σ1, hca, hka, haba⟩)
      | (go_at_call 53; refine (HS.out.2.2.2 _ G ((HT.out.rt.drew).chg hca HT.out.sep.symm)).mono ?_; rintro e wb ⟨rfl, G1, hcb, hrb⟩))
    go_wp2_with fail
    go_ret
    obtain ⟨a1, a2⟩ := HT.out.drew.fin hca hka haba HS.out.1 hcb hrb
    exact ⟨rfl, σ1, _, F1, G1, a1, (Chg.of_below (by rw [HD.out]; exact HB.out.1.drew)).trans a2, HS.out.2.1⟩

set_option maxRecDepth 100000 in
set_option maxHeartbeats 8000000 in
theorem one_del (page o v mark : Int) (on : Bool) (t r : Nat) (σ : St) (L : List X) (F G : List Nat) (w : World) (h : Tw w t r σ L F G) : Calls Try.prog 40 #[.pointer (some ⟨t, 0, none⟩), .pointer (some ⟨r, 0, none⟩), .agg #[.int .i64 3, .int .i64 page, .int .i64 o, .int .i64 v, .int .i64 mark, .bool on]] w fun e w' => OneOk w t r L F G page e w' := by
  obtain ⟨fi, fc, _, hfi⟩ := find_gen page r L h.gd
  have HFI := Lib.hid hfi
  obtain ⟨v', c, L', hs⟩ := del_both page h.ab h.gd (t := t) (r := r)
  have HS := Lib.hid hs
  clear hfi hs
  have hz := heap_alloc_new w (.cells #[.int .i64 3, .int .i64 page, .int .i64 o, .int .i64 v, .int .i64 mark, .bool on] 52)
  have hA : Below w.heap.size w (w.alloc (.cells #[.int .i64 3, .int .i64 page, .int .i64 o, .int .i64 v, .int .i64 mark, .bool on] 52)) := (Below.refl _ _).alloc (Nat.le_refl _) _
  have x0 : (w.alloc (.cells #[.int .i64 3, .int .i64 page, .int .i64 o, .int .i64 v, .int .i64 mark, .bool on] 52)).cell? ⟨w.heap.size, 0, none⟩ = some (.int .i64 3) := cell_of_row _ _ 0 _ 52 _ hz
  have x1 : (w.alloc (.cells #[.int .i64 3, .int .i64 page, .int .i64 o, .int .i64 v, .int .i64 mark, .bool on] 52)).cell? ⟨w.heap.size, 1, none⟩ = some (.int .i64 page) := cell_of_row _ _ 1 _ 52 _ hz
  have x2 : (w.alloc (.cells #[.int .i64 3, .int .i64 page, .int .i64 o, .int .i64 v, .int .i64 mark, .bool on] 52)).cell? ⟨w.heap.size, 2, none⟩ = some (.int .i64 o) := cell_of_row _ _ 2 _ 52 _ hz
  have x3 : (w.alloc (.cells #[.int .i64 3, .int .i64 page, .int .i64 o, .int .i64 v, .int .i64 mark, .bool on] 52)).cell? ⟨w.heap.size, 3, none⟩ = some (.int .i64 v) := cell_of_row _ _ 3 _ 52 _ hz
  have x4 : (w.alloc (.cells #[.int .i64 3, .int .i64 page, .int .i64 o, .int .i64 v, .int .i64 mark, .bool on] 52)).cell? ⟨w.heap.size, 4, none⟩ = some (.int .i64 mark) := cell_of_row _ _ 4 _ 52 _ hz
  have x5 : (w.alloc (.cells #[.int .i64 3, .int .i64 page, .int .i64 o, .int .i64 v, .int .i64 mark, .bool on] 52)).cell? ⟨w.heap.size, 5, none⟩ = some (.bool on) := cell_of_row _ _ 5 _ 52 _ hz
  have HB0 := Lib.hid (And.intro hA (And.intro (lt_of_block hz) (And.intro (fun hm => Nat.lt_irrefl _ (h.hp.lt _ hm) : w.heap.size ∉ F) (fun hm => Nat.lt_irrefl _ (h.rt.lt _ hm) : w.heap.size ∉ G))))
  have HT0 := Lib.hid (h.below hA)
  have HX := Lib.hid (And.intro x0 (And.intro x1 (And.intro x2 (And.intro x3 (And.intro x4 x5)))))
  clear hz hA h x2 x3 x4 x5
  go_enter Try.func40, Try.ntmps40
  go_upto_region 1 with fail
  generalize hD : w.heap.size = D at *
  have HD := Lib.hid hD
  clear hD
  generalize w.alloc (.cells #[.int .i64 3, .int .i64 page, .int .i64 o, .int .i64 v, .int .i64 mark, .bool on] 52) = w1 at *
  go_upto_region 2 with (go_at_call 35; refine (HFI.out w1 G HT0.out.rt).mono ?_; rintro e w2 ⟨rfl, hb⟩)
  have HB := Lib.hid (And.intro (HB0.out.1.trans (hb.mono (by have := HB0.out.1.size; have := HD.out; omega))) (And.intro (Nat.lt_of_lt_of_le HB0.out.2.1 hb.size) HB0.out.2.2))
  have HT := Lib.hid (HT0.out.below hb)
  have x0 := cell_keep hb HX.out.1
  have x1 := cell_keep hb HX.out.2.1
  have x2 := cell_keep hb HX.out.2.2.1
  have x3 := cell_keep hb HX.out.2.2.2.1
  have x4 := cell_keep hb HX.out.2.2.2.2.1
  have x5 := cell_keep hb HX.out.2.2.2.2.2
  clear hb HX HT0 HB0
  have HX := Lib.hid x1
  go_upto_region 5 with (go_at_call 15; refine (HS.out.2.2.1 _ F HT.out.hp).mono ?_; rintro e wa ⟨rfl, F1, σ1, hca, hka, haba⟩)
  have x1 := hca.cell HX.out HB.out.2.2.1
  have HA := Lib.hid (And.intro hca (And.intro hka haba))
  clear hca hka haba
  go_wp2_with (go_at_call 16; refine (HS.out.2.2.2 _ G (HT.out.rt.chg HA.out.1 HT.out.sep.symm)).mono ?_; rintro e wb ⟨rfl, G1, hcb, hrb⟩)
  go_ret
  obtain ⟨a1, a2⟩ := HT.out.fin HA.out.1 HA.out.2.1 HA.out.2.2 HS.out.1 hcb hrb
  exact ⟨rfl, σ1, _, F1, G1, a1, (Chg.of_below (by rw [HD.out]; exact HB.out.1)).trans a2, HS.out.2.1⟩

end Go.Proofs.Ytdnnfoojdfmajaa
