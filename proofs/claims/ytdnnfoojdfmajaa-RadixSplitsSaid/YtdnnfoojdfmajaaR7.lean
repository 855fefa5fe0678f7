/- Parts of the proofs of layer 19 (radix): contracts of its functions, and the laws' walks. -/
import Derived.Test.YtdnnfoojdfmajaaProg
import Derived.WalkKit
import Derived.WalkSpells
import Derived.WalkLawsBesides
import Derived.BigQuiet
import Derived.Deep.QuietTactic
import Derived.Lib.Hide
import Derived.Deep.RegionHeld3
import Derived.Deep.DeepCutAuto
import Derived.KernelRfl
import Derived.Deep.OwnRows
import Derived.Laws.CopyOwn
import Derived.Laws.CopyRow
import Derived.StillTailTactics
import Derived.Deep.RegionLaw
import Derived.Handy
import Derived.Deep.CutRange
import Derived.Deep.CutBlock
import Derived.Test.YtdnnfoojdfmajaaR6
namespace Go.Proofs.Ytdnnfoojdfmajaa
open Go.RowKit
set_option linter.unusedVariables false
set_option linter.unusedSimpArgs false

/-- A part of what is split. -/
def pc (x : X) (step : Int) (n : Nat) : X := ⟨x.p + n * 8 ^ (x.k - 1), x.k - 1, x.v + ((n : Nat) : Int) * step, x.a, x.b, x.c⟩
def pcs (x : X) (step : Int) : Nat → List X → List X
  | 0, M => M
  | n + 1, M => ins (pc x step n) (pcs x step n M)
theorem pcs_length (x : X) (step : Int) (n : Nat) (M : List X) : (pcs x step n M).length = M.length + n := by
  induction n with
  | zero => rfl
  | succ n ih => rw [pcs, ins_length, ih]; rfl
theorem RSplit_err (f step : Int) (c : Int) (hc : c ≠ 0) (r : Nat) (w : World) (H : Calls Try.prog 35 #[.pointer (some ⟨r, 0, none⟩), .int .i64 f] w fun e w' => e = .returned (.tuple #[.int .i64 (-1), .int .i64 c]) ∧ Below w.heap.size w w') :
    Calls Try.prog 51 #[.pointer (some ⟨r, 0, none⟩), .int .i64 f, .int .i64 step] w fun e w' => e = .returned (.int .i64 c) ∧ Below w.heap.size w w' := by
  have HH := Lib.hid H
  clear H
  go_enter Try.func51, Try.ntmps51
  go_wp2_with (go_at_call 35; refine HH.out.mono ?_; rintro e w1 ⟨rfl, hb⟩; have HB := Lib.hid hb; clear hb)
  go_ret
  exact ⟨rfl, HB.out⟩
theorem okS_iff {v step : Int} (hv : -1152921504606846976 ≤ v ∧ v ≤ 1152921504606846976) (hs : -1152921504606846976 ≤ step ∧ step ≤ 1152921504606846976) : okS v step ↔ (-1152921504606846976 ≤ IntKind.i64.wrap (v + 7 * step) ∧ IntKind.i64.wrap (v + 7 * step) ≤ 1152921504606846976) := by
  unfold okS
  rw [IntKind.wrap_i64]
  constructor
  · rintro ⟨a, b, c, d⟩; omega
  · intro h
    have : (v + 7 * step) ≤ 9223372036854775808 := by omega
    have : -9223372036854775808 ≤ v + 7 * step := by omega
    omega
theorem small_prod {a p : Int} (h : p ≤ 448 ∧ 0 ≤ p) (h1 : 0 ≤ a) (h2 : a < 4096) : IntKind.i64.wrap p = p ∧ IntKind.i64.wrap (a + p) = a + p := by
  rw [IntKind.wrap_i64, IntKind.wrap_i64]; omega
theorem wrap_is (n : Int) : wrap64 n = IntKind.i64.wrap n := by rw [IntKind.wrap_i64]; unfold wrap64; omega
set_option maxHeartbeats 4000000 in
theorem RSplit_zero (f : Int) (step : Int) (i : Nat) (x : X) (r : Nat) (F : List Nat) (L : List X) (w : World) (h : Rt w r F L) (hg : Good L) (hm : L.length ≤ 4500) (hi : L[i]? = some x) (hc : CovI x f) (hk : x.k = 0) : Calls Try.prog 51 #[.pointer (some ⟨r, 0, none⟩), .int .i64 f, .int .i64 step] w fun e w' => e = .returned (.int .i64 2) ∧ Below w.heap.size w w' := by
  have HK0 := Lib.hid hk
  clear hk
  have hil : i < L.length := (List.getElem?_eq_some_iff.1 hi).1
  have hxok := hg.1 x (List.mem_of_getElem? hi)
  have HF := Lib.hid (RFind_ok f i x r F L w (cov_page hxok hc) h hg hi hc)
  have HR := Lib.hid (And.intro h (And.intro hi hm))
  have HXO := Lib.hid hxok
  clear h hg hm hi hc hxok
  go_enter Try.func51, Try.ntmps51
  go_wp2_with fail
  refine HF.out.mono ?_
  rintro e w1 ⟨rfl, hb⟩
  have HB := Lib.hid hb
  have HT := Lib.hid (HR.out.1.below hb)
  clear hb HF
  obtain ⟨ao, cap, c0, hT, _⟩ := HT.out.cells
  obtain ⟨bl, cl2, hv, _, _, hbl, hcell, _⟩ := hT.read (ne_nil_of_lt hil)
  cases hv
  obtain ⟨e0, e1, e2, e3, e4, e5⟩ := hcell i _ HR.out.2.1
  have hiI : ((i : Nat) : Int) < ((L.length : Nat) : Int) := by omega
  have hi0 : (0 : Int) ≤ ((i : Nat) : Int) := by omega
  clear hcell hT hbl
  have HA := Lib.hid (show Below w1.heap.size w1 (w1.alloc (.cells #[.int .i64 ((x.p : Nat) : Int), .int .i64 (3 * ((x.k : Nat) : Int)), .int .i64 x.v, .bool x.a, .bool x.b, .bool x.c] 40)) from (Below.refl _ _).alloc (Nat.le_refl _) _)
  have hcs : 3 * ((x.k : Nat) : Int) ≤ 6 ∧ 0 ≤ 3 * ((x.k : Nat) : Int) := by have := HXO.out.1; omega
  have hcp : x.p < 4096 := HXO.out.lt
  go_upto_region 5 with fail
  clear e0 e1 e2 e3 e4 e5 c0
  obtain ⟨e0, e1, e2, e3, e4, e5⟩ := newX x w1
  have HT4 := Lib.hid (HT.out.below HA.out)
  have HB4 := Lib.hid (And.intro (HB.out.trans (HA.out.mono HB.out.size)) (And.intro (show w1.heap.size < (w1.alloc (.cells #[.int .i64 ((x.p : Nat) : Int), .int .i64 (3 * ((x.k : Nat) : Int)), .int .i64 x.v, .bool x.a, .bool x.b, .bool x.c] 40)).heap.size from lt_of_block (heap_alloc_new _ _)) HT.out.lt))
  clear HT HA
  generalize w1.heap.size = B4 at *
  generalize w1.alloc (.cells #[.int .i64 ((x.p : Nat) : Int), .int .i64 (3 * ((x.k : Nat) : Int)), .int .i64 x.v, .bool x.a, .bool x.b, .bool x.c] 40) = w4 at *
  obtain ⟨v, hv⟩ : ∃ v, x.v = v := ⟨_, rfl⟩
  obtain ⟨o, ho⟩ : ∃ o, 3 * ((x.k : Nat) : Int) = o := ⟨_, rfl⟩
  obtain ⟨kp, hkp⟩ : ∃ kp, x.p = kp := ⟨_, rfl⟩
  obtain ⟨xa, hxa⟩ : ∃ xa, x.a = xa := ⟨_, rfl⟩
  obtain ⟨xb, hxb⟩ : ∃ xb, x.b = xb := ⟨_, rfl⟩
  obtain ⟨xc, hxc⟩ : ∃ xc, x.c = xc := ⟨_, rfl⟩
  have HE := Lib.hid (And.intro hv (And.intro ho (And.intro hkp (And.intro hxa (And.intro hxb hxc)))))
  rw [hv] at e2
  rw [ho] at e1 hcs
  rw [hkp] at e0 hcp
  rw [hxa] at e3
  rw [hxb] at e4
  rw [hxc] at e5
  clear hv ho hkp hxa hxb hxc
  have ho : o = 0 := by have := HE.out.2.1; rw [HK0.out] at this; omega
  subst ho
  go_wp2_with fail
  go_ret
  exact ⟨rfl, HB4.out.1⟩
set_option maxHeartbeats 4000000 in
theorem RSplit_rng (f : Int) (step : Int) (i : Nat) (x : X) (r : Nat) (F : List Nat) (L : List X) (w : World) (h : Rt w r F L) (hg : Good L) (hm : L.length ≤ 4500) (hi : L[i]? = some x) (hc : CovI x f) (hk : x.k ≠ 0) (hok : ¬ okS x.v step) : Calls Try.prog 51 #[.pointer (some ⟨r, 0, none⟩), .int .i64 f, .int .i64 step] w fun e w' => e = .returned (.int .i64 3) ∧ Below w.heap.size w w' := by
  have hil : i < L.length := (List.getElem?_eq_some_iff.1 hi).1
  have hxok := hg.1 x (List.mem_of_getElem? hi)
  have HF := Lib.hid (RFind_ok f i x r F L w (cov_page hxok hc) h hg hi hc)
  have HR := Lib.hid (And.intro h (And.intro hi hm))
  have HXO := Lib.hid hxok
  clear h hg hm hi hc hxok
  go_enter Try.func51, Try.ntmps51
  go_wp2_with fail
  refine HF.out.mono ?_
  rintro e w1 ⟨rfl, hb⟩
  have HB := Lib.hid hb
  have HT := Lib.hid (HR.out.1.below hb)
  clear hb HF
  obtain ⟨ao, cap, c0, hT, _⟩ := HT.out.cells
  obtain ⟨bl, cl2, hv, _, _, hbl, hcell, _⟩ := hT.read (ne_nil_of_lt hil)
  cases hv
  obtain ⟨e0, e1, e2, e3, e4, e5⟩ := hcell i _ HR.out.2.1
  have hiI : ((i : Nat) : Int) < ((L.length : Nat) : Int) := by omega
  have hi0 : (0 : Int) ≤ ((i : Nat) : Int) := by omega
  clear hcell hT hbl
  have HA := Lib.hid (show Below w1.heap.size w1 (w1.alloc (.cells #[.int .i64 ((x.p : Nat) : Int), .int .i64 (3 * ((x.k : Nat) : Int)), .int .i64 x.v, .bool x.a, .bool x.b, .bool x.c] 40)) from (Below.refl _ _).alloc (Nat.le_refl _) _)
  have hcs : 3 * ((x.k : Nat) : Int) ≤ 6 ∧ 0 ≤ 3 * ((x.k : Nat) : Int) := by have := HXO.out.1; omega
  have hcp : x.p < 4096 := HXO.out.lt
  go_upto_region 5 with fail
  clear e0 e1 e2 e3 e4 e5 c0
  obtain ⟨e0, e1, e2, e3, e4, e5⟩ := newX x w1
  have HT4 := Lib.hid (HT.out.below HA.out)
  have HB4 := Lib.hid (And.intro (HB.out.trans (HA.out.mono HB.out.size)) (And.intro (show w1.heap.size < (w1.alloc (.cells #[.int .i64 ((x.p : Nat) : Int), .int .i64 (3 * ((x.k : Nat) : Int)), .int .i64 x.v, .bool x.a, .bool x.b, .bool x.c] 40)).heap.size from lt_of_block (heap_alloc_new _ _)) HT.out.lt))
  clear HT HA
  generalize w1.heap.size = B4 at *
  generalize w1.alloc (.cells #[.int .i64 ((x.p : Nat) : Int), .int .i64 (3 * ((x.k : Nat) : Int)), .int .i64 x.v, .bool x.a, .bool x.b, .bool x.c] 40) = w4 at *
  obtain ⟨v, hv⟩ : ∃ v, x.v = v := ⟨_, rfl⟩
  obtain ⟨o, ho⟩ : ∃ o, 3 * ((x.k : Nat) : Int) = o := ⟨_, rfl⟩
  obtain ⟨kp, hkp⟩ : ∃ kp, x.p = kp := ⟨_, rfl⟩
  obtain ⟨xa, hxa⟩ : ∃ xa, x.a = xa := ⟨_, rfl⟩
  obtain ⟨xb, hxb⟩ : ∃ xb, x.b = xb := ⟨_, rfl⟩
  obtain ⟨xc, hxc⟩ : ∃ xc, x.c = xc := ⟨_, rfl⟩
  have HE := Lib.hid (And.intro hv (And.intro ho (And.intro hkp (And.intro hxa (And.intro hxb hxc)))))
  rw [hv] at e2
  rw [ho] at e1 hcs
  rw [hkp] at e0 hcp
  rw [hxa] at e3
  rw [hxb] at e4
  rw [hxc] at e5
  clear hv ho hkp hxa hxb hxc
  have ho : ¬ (o = 0) := by have := HE.out.2.1; omega
  have hvr : -1152921504606846976 ≤ v ∧ v ≤ 1152921504606846976 := by have := HXO.out.2.2.2; rw [HE.out.1] at this; exact this
  rw [HE.out.1] at hok
  by_cases hs : -1152921504606846976 ≤ step ∧ step ≤ 1152921504606846976
  · have hw := fun hh => hok ((okS_iff hvr hs).2 hh)
    have HI := Lib.hid (fun W => within_any step W)
    simp only [decide_eq_true hs] at HI
    have HJ := Lib.hid (fun W => within_any (IntKind.i64.wrap (v + 7 * step)) W)
    simp only [decide_eq_false hw] at HJ
    have q1 : IntKind.i64.wrap (7 * step) = 7 * step := by rw [IntKind.wrap_i64]; omega
    clear hok hw
    obtain ⟨s7, hs7⟩ : ∃ s7, IntKind.i64.wrap (v + 7 * step) = s7 := ⟨_, rfl⟩
    rw [hs7] at HJ
    have hs7' : wrap64 (v + 7 * step) = s7 := (wrap_is _).trans hs7
    clear hvr
    go_wp2_with (first | (go_at_call 50; refine (HI.out _).mono ?_; rintro e w5 ⟨rfl, rfl⟩) | (go_at_call 50; first | rw [hs7] | rw [hs7'] | skip; refine (HJ.out _).mono ?_; rintro e w5 ⟨rfl, rfl⟩))
    go_ret
    exact ⟨rfl, HB4.out.1⟩
  · have HI := Lib.hid (fun W => within_any step W)
    simp only [decide_eq_false hs] at HI
    clear hok hs hvr
    go_wp2_with (first | (go_at_call 50; refine (HI.out _).mono ?_; rintro e w5 ⟨rfl, rfl⟩))
    go_ret
    exact ⟨rfl, HB4.out.1⟩
set_option maxRecDepth 100000 in
set_option maxHeartbeats 8000000 in
theorem RSplit_ok (f : Int) (step : Int) (i : Nat) (x : X) (r : Nat) (F : List Nat) (L : List X) (w : World) (h : Rt w r F L) (hg : Good L) (hm : L.length ≤ 4500) (hi : L[i]? = some x) (hc : CovI x f) (hk : x.k ≠ 0) (hok : okS x.v step) : Calls Try.prog 51 #[.pointer (some ⟨r, 0, none⟩), .int .i64 f, .int .i64 step] w fun e w' => e = .returned (.int .i64 0) ∧ ∃ F', Chg F F' w w' ∧ Rt w' r F' (pcs x step 8 (dl i 1 L)) := by
  have hil : i < L.length := (List.getElem?_eq_some_iff.1 hi).1
  have hxok := hg.1 x (List.mem_of_getElem? hi)
  have HF := Lib.hid (RFind_ok f i x r F L w (cov_page hxok hc) h hg hi hc)
  have HR := Lib.hid (And.intro h (And.intro hi hm))
  have HXO := Lib.hid hxok
  clear h hg hm hi hc hxok
  go_enter Try.func51, Try.ntmps51
  go_wp2_with fail
  refine HF.out.mono ?_
  rintro e w1 ⟨rfl, hb⟩
  have HB := Lib.hid hb
  have HT := Lib.hid (HR.out.1.below hb)
  clear hb HF
  obtain ⟨ao, cap, c0, hT, _⟩ := HT.out.cells
  obtain ⟨bl, cl2, hv, _, _, hbl, hcell, _⟩ := hT.read (ne_nil_of_lt hil)
  cases hv
  obtain ⟨e0, e1, e2, e3, e4, e5⟩ := hcell i _ HR.out.2.1
  have hiI : ((i : Nat) : Int) < ((L.length : Nat) : Int) := by omega
  have hi0 : (0 : Int) ≤ ((i : Nat) : Int) := by omega
  clear hcell hT hbl
  have HA := Lib.hid (show Below w1.heap.size w1 (w1.alloc (.cells #[.int .i64 ((x.p : Nat) : Int), .int .i64 (3 * ((x.k : Nat) : Int)), .int .i64 x.v, .bool x.a, .bool x.b, .bool x.c] 40)) from (Below.refl _ _).alloc (Nat.le_refl _) _)
  have hcs : 3 * ((x.k : Nat) : Int) ≤ 6 ∧ 0 ≤ 3 * ((x.k : Nat) : Int) := by have := HXO.out.1; omega
  have hcp : x.p < 4096 := HXO.out.lt
  go_upto_region 5 with fail
  clear e0 e1 e2 e3 e4 e5 c0
  obtain ⟨e0, e1, e2, e3, e4, e5⟩ := newX x w1
  have HT4 := Lib.hid (HT.out.below HA.out)
  have HB4 := Lib.hid (And.intro (HB.out.trans (HA.out.mono HB.out.size)) (And.intro (show w1.heap.size < (w1.alloc (.cells #[.int .i64 ((x.p : Nat) : Int), .int .i64 (3 * ((x.k : Nat) : Int)), .int .i64 x.v, .bool x.a, .bool x.b, .bool x.c] 40)).heap.size from lt_of_block (heap_alloc_new _ _)) HT.out.lt))
  clear HT HA
  generalize w1.heap.size = B4 at *
  generalize w1.alloc (.cells #[.int .i64 ((x.p : Nat) : Int), .int .i64 (3 * ((x.k : Nat) : Int)), .int .i64 x.v, .bool x.a, .bool x.b, .bool x.c] 40) = w4 at *
  obtain ⟨v, hv⟩ : ∃ v, x.v = v := ⟨_, rfl⟩
  obtain ⟨o, ho⟩ : ∃ o, 3 * ((x.k : Nat) : Int) = o := ⟨_, rfl⟩
  obtain ⟨kp, hkp⟩ : ∃ kp, x.p = kp := ⟨_, rfl⟩
  obtain ⟨xa, hxa⟩ : ∃ xa, x.a = xa := ⟨_, rfl⟩
  obtain ⟨xb, hxb⟩ : ∃ xb, x.b = xb := ⟨_, rfl⟩
  obtain ⟨xc, hxc⟩ : ∃ xc, x.c = xc := ⟨_, rfl⟩
  have HE := Lib.hid (And.intro hv (And.intro ho (And.intro hkp (And.intro hxa (And.intro hxb hxc)))))
  rw [hv] at e2
  rw [ho] at e1 hcs
  rw [hkp] at e0 hcp
  rw [hxa] at e3
  rw [hxb] at e4
  rw [hxc] at e5
  clear hv ho hkp hxa hxb hxc
  have ho : ¬ (o = 0) := by have := HE.out.2.1; omega
  have ho3 : 3 ≤ o := by have := HE.out.2.1; omega
  have hvr : -1152921504606846976 ≤ v ∧ v ≤ 1152921504606846976 := by have := HXO.out.2.2.2; rw [HE.out.1] at this; exact this
  rw [HE.out.1] at hok
  have hs : -1152921504606846976 ≤ step ∧ step ≤ 1152921504606846976 := by unfold okS at hok; omega
  have hw := (okS_iff hvr hs).1 hok
  have HI := Lib.hid (fun W => within_any step W)
  simp only [decide_eq_true hs] at HI
  have HJ := Lib.hid (fun W => within_any (v + 7 * step) W)
  simp only [decide_eq_true (show -1152921504606846976 ≤ v + 7 * step ∧ v + 7 * step ≤ 1152921504606846976 from hok.2.2)] at HJ
  have q1 : IntKind.i64.wrap (7 * step) = 7 * step := by rw [IntKind.wrap_i64]; omega
  have q2 : IntKind.i64.wrap (v + 7 * step) = v + 7 * step := by have := hok.2.2; rw [IntKind.wrap_i64]; omega
  have HOK := Lib.hid (And.intro hok hvr)
  clear hok hvr hw hs
  go_upto_region 9 with (first | (go_at_call 50; refine (HI.out _).mono ?_; rintro e w5 ⟨rfl, rfl⟩) | (go_at_call 50; refine (HJ.out _).mono ?_; rintro e w5 ⟨rfl, rfl⟩))
  clear q1 q2
  go_wp2_with fail
  refine (Rdrop_any i 1 r F L w4 HT4.out (by have := HR.out.2.2; omega) (by have := HR.out.2.2; omega) (by omega)).mono ?_
  rintro e w5 ⟨rfl, F5, hc5, hr5⟩
  have HC5 := Lib.hid (And.intro hc5 hr5)
  have HBX := Lib.hid (And.intro e0 (And.intro e1 (And.intro e2 (And.intro e3 (And.intro e4 e5)))))
  have HBF := Lib.hid (show B4 ∉ F from fun hm => Nat.lt_irrefl _ (HB4.out.2.2 B4 hm))
  clear hc5 hr5 e0 e1 e2 e3 e4 e5
  obtain ⟨s1, hs1⟩ : ∃ s1, 8 ^ (x.k - 1) = s1 := ⟨_, rfl⟩
  have hs64 : s1 ≤ 64 := by rw [← hs1]; have := HXO.out.1; rcases k3 (show x.k - 1 ≤ 2 by omega) with e | e | e <;> rw [e] <;> decide
  have HSZ := Lib.hid (fun W => siz_at (show x.k - 1 ≤ 2 from by have := HXO.out.1; omega) W)
  rw [show 3 * ((x.k - 1 : Nat) : Int) = o - 3 from by rw [← HE.out.2.1]; omega, hs1] at HSZ
  have qo : IntKind.i64.wrap (o - 3) = o - 3 := by rw [IntKind.wrap_i64]; omega
  have HPU := Lib.hid (fun (n : Nat) (W : World) (FF : List Nat) (hW : Rt W r FF (pcs x step n (dl i 1 L))) (hn : n < 8) => Rput_any (pc x step n) r FF _ W hW (by rw [pcs_length]; have := dl_len i 1 L; have := HR.out.2.2; omega))
  unfold pc at HPU
  simp only [HE.out.1, HE.out.2.2.1, HE.out.2.2.2.1, HE.out.2.2.2.2.1, HE.out.2.2.2.2.2, hs1, show 3 * ((x.k - 1 : Nat) : Int) = o - 3 from by rw [← HE.out.2.1]; omega, Int.natCast_add, Int.natCast_mul] at HPU
  have HPC := Lib.hid (fun n : Nat => (show pc x step n = ⟨kp + n * s1, x.k - 1, v + ((n : Nat) : Int) * step, xa, xb, xc⟩ from by unfold pc; rw [HE.out.1, HE.out.2.2.1, HE.out.2.2.2.1, HE.out.2.2.2.2.1, HE.out.2.2.2.2.2, hs1]))
  have HS1 := Lib.hid hs1
  clear hs1
  go_wp2_with fail
  go_loopw [10] (fun s wr => ∃ (n : Nat), n ≤ 8 ∧ s = .int .i64 (n : Nat) ∧ RowKit.Hid (∃ F', Chg F F' w4 wr ∧ Rt wr r F' (pcs x step n (dl i 1 L)))) (fun s _ => 8 - (intOf s).toNat)
  case atStart => exact ⟨0, by omega, rfl, Lib.hid ⟨F5, HC5.out⟩⟩
  case round =>
    obtain ⟨n, hn, rfl, HL⟩ := hrel
    obtain ⟨F', hcL, hrL⟩ := HL.out
    have HL1 := Lib.hid (And.intro hcL hrL)
    by_cases hn8 : n < 8
    · have hnI : ((n : Nat) : Int) < 8 := by omega
      have hmb := mul_bound HOK.out.1 hn8 HOK.out.2.1 HOK.out.2.2
      have q1 : IntKind.i64.wrap (((n : Nat) : Int) * step) = ((n : Nat) : Int) * step := (wrap_is _).symm.trans (IntWalk.wrap64_in _ ⟨hmb.1, hmb.2.1⟩)
      have q2 : IntKind.i64.wrap (v + ((n : Nat) : Int) * step) = v + ((n : Nat) : Int) * step := (wrap_is _).symm.trans (IntWalk.wrap64_in _ hmb.2.2)
      have hns : n * s1 ≤ 7 * 64 := Nat.mul_le_mul (by omega) hs64
      have hnsI : ((n : Nat) : Int) * ((s1 : Nat) : Int) ≤ 448 ∧ 0 ≤ ((n : Nat) : Int) * ((s1 : Nat) : Int) := by rw [← Int.natCast_mul]; omega
      obtain ⟨q3, q4⟩ := small_prod hnsI (show (0 : Int) ≤ ((kp : Nat) : Int) by omega) (show ((kp : Nat) : Int) < 4096 by omega)
      have e0 := hcL.cell HBX.out.1 HBF.out
      have e1 := hcL.cell HBX.out.2.1 HBF.out
      have e2 := hcL.cell HBX.out.2.2.1 HBF.out
      have e3 := hcL.cell HBX.out.2.2.2.1 HBF.out
      have e4 := hcL.cell HBX.out.2.2.2.2.1 HBF.out
      have e5 := hcL.cell HBX.out.2.2.2.2.2 HBF.out
      clear hmb hcL hrL hns hnsI
      go_upto_region 13 with fail
      go_still_tail 22, (by kernel_rfl)
      still_call (HSZ.out _)
      repeat still_step
      refine wpStill_nil ?_
      change wpList _ _ _ _ _ (World.drew _)
      clear e0 e1 e2 e3 e4 e5 q1 q2 q3 q4
      go_wp2_with fail
      refine (HPU.out n _ F' HL1.out.2.drew hn8).mono ?_
      rintro e w7 ⟨rfl, F7, hc7, hr7⟩
      have HN := Lib.hid (And.intro (HL1.out.1.trans hc7.drew') hr7)
      clear hc7 hr7
      go_wp2_with fail
      exact ⟨⟨n + 1, by omega, by simp, Lib.hid ⟨F7, HN.out.1, by rw [pcs, HPC.out]; exact HN.out.2⟩⟩, by simp [intOf]; omega⟩
    · obtain rfl : n = 8 := by omega
      clear hcL hrL
      go_wp2_with fail
      go_ret
      exact ⟨rfl, F', (Chg.of_below (F := F) HB4.out.1).trans HL1.out.1, HL1.out.2⟩

end Go.Proofs.Ytdnnfoojdfmajaa
