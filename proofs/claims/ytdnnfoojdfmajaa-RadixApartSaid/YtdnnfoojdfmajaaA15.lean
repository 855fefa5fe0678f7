/- Parts of the proofs of layer 19 (radix): contracts of its functions, and the laws' walks. -/
import Derived.Test.YtdnnfoojdfmajaaProg
import Derived.WalkKit
import Derived.WalkSpells
import Derived.WalkLawsBesides
import Derived.BigQuiet
import Derived.Deep.QuietTactic
import Derived.Lib.Hide
import Derived.Deep.RegionHeld3
import Derived.Deep.DeepCutAuto
import Derived.KernelRfl
import Derived.Deep.OwnRows
import Derived.Laws.CopyOwn
import Derived.Laws.CopyRow
import Derived.StillTailTactics
import Derived.Deep.RegionLaw
import Derived.Handy
import Derived.Deep.CutRange
import Derived.Deep.CutBlock
import Derived.Test.YtdnnfoojdfmajaaA13
namespace Go.Proofs.Ytdnnfoojdfmajaa
open Go.RowKit
set_option linter.unusedVariables false
set_option linter.unusedSimpArgs false

theorem eight_keep {w w' : World} {a0 a1 a2 a3 a4 a5 a6 a7 : Addr} {u0 u1 u2 u3 u4 u5 u6 u7 : Value} (hb : Below w.heap.size w w') (h : w.cell? a0 = some u0 ∧ w.cell? a1 = some u1 ∧ w.cell? a2 = some u2 ∧ w.cell? a3 = some u3 ∧ w.cell? a4 = some u4 ∧ w.cell? a5 = some u5 ∧ w.cell? a6 = some u6 ∧ w.cell? a7 = some u7) :
    w'.cell? a0 = some u0 ∧ w'.cell? a1 = some u1 ∧ w'.cell? a2 = some u2 ∧ w'.cell? a3 = some u3 ∧ w'.cell? a4 = some u4 ∧ w'.cell? a5 = some u5 ∧ w'.cell? a6 = some u6 ∧ w'.cell? a7 = some u7 :=
  ⟨cell_keep hb h.1, cell_keep hb h.2.1, cell_keep hb h.2.2.1, cell_keep hb h.2.2.2.1, cell_keep hb h.2.2.2.2.1, cell_keep hb h.2.2.2.2.2.1, cell_keep hb h.2.2.2.2.2.2.1, cell_keep hb h.2.2.2.2.2.2.2⟩
theorem blk2' {w : World} {b : Nat} {u v : Value} (hz : w.heap[b]? = some (.cells #[u, v] 29 (0, 0))) : w.cell? ⟨b, 0, none⟩ = some u ∧ w.cell? ⟨b, 1, none⟩ = some v := ⟨cell_of_row _ _ 0 _ 29 _ hz, cell_of_row _ _ 1 _ 29 _ hz⟩
theorem marked_is (g m t : Nat) (σ : St) (L : List X) (many nodes : Int) (F : List Nat) (hg : g < 4096) (hab : Ab σ L) (hgd : Good L) {x : X} (hx : x ∈ L) (hc : Cov x g) (hm : m < 3) (w : World) (h : Hp w t σ many nodes F) :
    Calls Try.prog 25 #[.pointer (some ⟨t, 0, none⟩), .int .i64 (g : Nat), .int .i64 (m : Nat)] w fun e w' => e = .returned (.bool (x.m m)) ∧ Below w.heap.size w w' := by
  obtain ⟨l, e, hA, hE⟩ := hab.at_ hgd hx hg hc
  refine (Marked_any g t (m : Nat) σ many nodes F w hg h).mono ?_
  rintro e' w' ⟨hb, ⟨hn, _⟩ | ⟨κ, x', l', hA', hE', ⟨hm', _⟩ | ⟨_, rfl⟩⟩⟩
  · exact absurd hn (hA.not_nf hE hg)
  · omega
  · obtain ⟨rfl, rfl⟩ := hA.uniq hA'
    refine ⟨?_, hb⟩
    congr 2
    rw [Int.toNat_natCast, Bool.eq_iff_iff, hab.m _ _ _ (by have := (hgd.1 x hx).1; omega) hm]
    constructor
    · rintro ⟨y, hy, b1, b2, b3⟩
      have := slot_uniq hgd hx hc hy b1 b2
      subst this
      exact b3
    · exact fun h => ⟨x, hx, Nat.le_refl _, ((hgd.1 x hx).cov g).1 hc, h⟩
theorem marked_at (g m t : Nat) (mk : Int) (hmk : mk = ((m : Nat) : Int)) (bv : Bool) (σ : St) (L : List X) (many nodes : Int) (F : List Nat) (hg : g < 4096) (hab : Ab σ L) (hgd : Good L) {x : X} (hx : x ∈ L) (hc : Cov x g) (hm : m < 3) (hbv : x.m m = bv) (w : World) (h : Hp w t σ many nodes F) :
    Calls Try.prog 25 #[.pointer (some ⟨t, 0, none⟩), .int .i64 (g : Nat), .int .i64 mk] w fun e w' => e = .returned (.bool bv) ∧ Below w.heap.size w w' := by
  subst hmk
  subst hbv
  exact marked_is g m t σ L many nodes F hg hab hgd hx hc hm w h
set_option maxRecDepth 100000 in
set_option maxHeartbeats 16000000 in
theorem apart_law (ao : Option Addr) (len cap : Nat) (z : Nat → Ac) (kind pa o v mark : Int) (on : Bool) (page : Int) (w : World) (hlc : len ≤ cap) (hcm : cap ≤ maxLen) (hA : Acts w ao len z) (hpa : -9223372036854775808 ≤ pa ∧ pa < 9223372036854775808) : Calls Try.prog 7 #[.slice ao len cap, .agg #[.int .i64 kind, .int .i64 pa, .int .i64 o, .int .i64 v, .int .i64 mark, .bool on], .int .i64 page] w fun e w' => e = .returned (.bool true) ∧ Below w.heap.size w w' := by
  have hz := heap_alloc_new w (.cells #[.int .i64 kind, .int .i64 pa, .int .i64 o, .int .i64 v, .int .i64 mark, .bool on] 52)
  have hA0 : Below w.heap.size w (w.alloc (.cells #[.int .i64 kind, .int .i64 pa, .int .i64 o, .int .i64 v, .int .i64 mark, .bool on] 52)) := (Below.refl _ _).alloc (Nat.le_refl _) _
  have HX0 := Lib.hid (act6 hz)
  have HB0 := Lib.hid hA0
  replace hA := hA.below hA0
  clear hz hA0
  go_enter Try.func7, Try.ntmps7
  go_upto_region 1 with fail
  generalize hD : w.heap.size = D at *
  have HD := Lib.hid hD
  clear hD
  generalize w.alloc (.cells #[.int .i64 kind, .int .i64 pa, .int .i64 o, .int .i64 v, .int .i64 mark, .bool on] 52) = w0 at *
  go_wp2_with fail
  refine (made_any ao len cap z w0 hlc hcm hA).mono ?_
  rintro e w1 ⟨t, r, σ, L, F, G, rfl, hm, hb⟩
  have HM := Lib.hid (And.intro hm hb)
  clear hA hm hb
  go_upto_region 4 with (go_at_call 10; refine (awake_any w1).mono ?_; rintro e w2 ⟨rfl, hb2⟩; have HB2 := Lib.hid hb2; clear hb2)
  have HT := Lib.hid (And.intro (HM.out.1.1.below HB2.out) (And.intro (HM.out.2.trans (HB2.out.mono HM.out.2.size)) HM.out.1.2))
  clear HM HB2
  have HNW := Lib.hid (And.intro HT.out.2.2 (show D ≤ w0.heap.size by have := HB0.out.size; have := HD.out; omega))
  have HBX := Lib.hid (And.intro (HB0.out.trans (HT.out.2.1.mono (by have := HB0.out.size; have := HD.out; omega))) HT.out.2.1)
  go_wp2_with fail
  refine (RAt_any page r G L w2 HT.out.1.rt HT.out.1.gd).mono ?_
  rintro e w3 ⟨hb3, ⟨hn, rfl⟩ | ⟨i, x, hi, hc, rfl⟩⟩
  · have HB9 := Lib.hid (show Below w.heap.size w w3 by rw [HD.out]; exact HBX.out.1.trans (hb3.mono (by have := HBX.out.1.size; have := HD.out; omega)))
    clear hb3 hn
    go_wp2_with fail
    go_ret
    exact ⟨rfl, HB9.out⟩
  · have hxm := List.mem_of_getElem? hi
    have hil : i < L.length := (List.getElem?_eq_some_iff.1 hi).1
    have hiI : ((i : Nat) : Int) < ((L.length : Nat) : Int) := by omega
    have hi0 : (0 : Int) ≤ ((i : Nat) : Int) := by omega
    have hxo := HT.out.1.gd.1 x hxm
    obtain ⟨hp0, hp1⟩ := cov_page hxo hc
    obtain ⟨g, rfl⟩ : ∃ g : Nat, page = (g : Nat) := ⟨page.toNat, by omega⟩
    have HC := Lib.hid (And.intro (CovI.iff.1 hc) (And.intro hi (And.intro hxm (show g < 4096 by omega))))
    have HT3 := Lib.hid (HT.out.1.below hb3)
    have HB3 := Lib.hid (And.intro (HBX.out.1.trans (hb3.mono (by have := HBX.out.1.size; have := HD.out; omega))) (HT.out.2.1.trans (hb3.mono HT.out.2.1.size)))
    obtain ⟨x0, x1, x2, x3, x4, x5⟩ := (show _ ∧ _ ∧ _ ∧ _ ∧ _ ∧ _ from ⟨cell_keep HB3.out.2 HX0.out.1, cell_keep HB3.out.2 HX0.out.2.1, cell_keep HB3.out.2 HX0.out.2.2.1, cell_keep HB3.out.2 HX0.out.2.2.2.1, cell_keep HB3.out.2 HX0.out.2.2.2.2.1, cell_keep HB3.out.2 HX0.out.2.2.2.2.2⟩)
    have HX3 := Lib.hid (And.intro x0 (And.intro x1 (And.intro x2 (And.intro x3 (And.intro x4 x5)))))
    clear hb3 hi hc hxm hxo hp0 hp1 HT
    by_cases hk : kind = 9
    · subst hk
      have HB9 := Lib.hid (show Below w.heap.size w w3 by rw [HD.out]; exact HB3.out.1)
      go_wp2_with fail
      go_ret
      exact ⟨rfl, HB9.out⟩
    · have hk9 : (kind == 9) = false := by simp [hk]
      have HK9 := Lib.hid hk
      obtain ⟨ao', cap', c0, hT, _⟩ := HT3.out.rt.cells
      obtain ⟨bl, cl2, hv', _, _, hbl, hcell, _⟩ := hT.read (ne_nil_of_lt hil)
      cases hv'
      obtain ⟨e0, e1, e2, e3, e4, e5⟩ := hcell i _ HC.out.2.1
      clear hT hbl hcell
      have hA4 : Below w3.heap.size w3 (w3.alloc (.cells #[.int .i64 ((x.p : Nat) : Int), .int .i64 (3 * ((x.k : Nat) : Int)), .int .i64 x.v, .bool x.a, .bool x.b, .bool x.c] 40)) := (Below.refl _ _).alloc (Nat.le_refl _) _
      have HT4 := Lib.hid (HT3.out.below hA4)
      have HB4 := Lib.hid (HB3.out.1.trans (hA4.mono (by have := HB3.out.1.size; have := HD.out; omega)))
      have HX4 := Lib.hid (six_chg (F := []) HX3.out (Chg.of_below hA4) (by simp))
      clear hA4
      have HBF := Lib.hid (fun hm => Nat.lt_irrefl _ (HT3.out.lt _ hm) : w3.heap.size ∉ F ++ G)
      go_upto_region 9 with fail
      clear e0 e1 e2 e3 e4 e5 c0 x0 x1 x2 x3 x4 x5
      obtain ⟨e0, e1, e2, e3, e4, e5⟩ := newX x w3
      generalize w3.alloc (.cells #[.int .i64 ((x.p : Nat) : Int), .int .i64 (3 * ((x.k : Nat) : Int)), .int .i64 x.v, .bool x.a, .bool x.b, .bool x.c] 40) = w4 at *
      generalize w3.heap.size = B5 at *
      obtain ⟨xo, hxo⟩ : ∃ xo, 3 * ((x.k : Nat) : Int) = xo := ⟨_, rfl⟩
      have HXO := Lib.hid hxo
      rw [hxo] at e1
      clear hxo
      have HE := Lib.hid (And.intro e0 (And.intro e1 (And.intro e2 (And.intro e3 (And.intro e4 e5)))))
      obtain ⟨x0, x1, x2, x3, x4, x5⟩ := HX4.out
      have hcp : x.p < 4096 := (HT4.out.gd.1 x HC.out.2.2.1).lt
      by_cases c1 : 0 ≤ pa
      · obtain ⟨qa, hqa⟩ : ∃ qa, pa / 64 = qa := ⟨_, rfl⟩
        have q1 : Int.tdiv pa 64 = qa := by rw [Int.tdiv_eq_ediv_of_nonneg c1]; exact hqa
        have q2 : Int.tdiv ((x.p : Nat) : Int) 64 = ((x.p / 64 : Nat) : Int) := by rw [Int.tdiv_eq_ediv_of_nonneg (by omega)]; omega
        have q3 : IntKind.i64.wrap qa = qa := by rw [IntKind.wrap_i64]; omega
        have q4 : ((x.p : Nat) : Int) / 64 = ((x.p / 64 : Nat) : Int) := by omega
        have q5 : IntKind.i64.wrap ((x.p / 64 : Nat) : Int) = ((x.p / 64 : Nat) : Int) := by rw [IntKind.wrap_i64]; omega
        obtain ⟨qb, hqb⟩ : ∃ qb, ((x.p / 64 : Nat) : Int) = qb := ⟨_, rfl⟩
        rw [hqb] at q2 q4 q5
        by_cases hq : qa = qb
        · subst hq
          go_quiet (fail)
          have HB9 := Lib.hid (show Below w.heap.size w (w4.drewN nq) by rw [HD.out]; exact below_drewN HB4.out nq)
          clear e0 e1 e2 e3 e4 e5 x0 x1 x2 x3 x4 x5
          go_wp2_with fail
          go_ret
          exact ⟨rfl, HB9.out⟩
        · have HFAR := Lib.hid (show ¬ (0 ≤ pa ∧ pa / 64 = ((x.p / 64 : Nat) : Int)) from fun h => hq (by rw [← hqa, h.2, hqb]))
          have hne : (qa == qb) = false := by simp [hq]
          go_quiet (fail)
          clear q1 q2 q3 q4 q5 hqa hqb hne hq c1 hcp
          have HT5 := Lib.hid (And.intro (HT4.out.drewN nq) (below_drewN HB4.out nq))
          have HE5 := Lib.hid (show (w4.drewN nq).cell? ⟨B5, 0, none⟩ = some (.int .i64 ((x.p : Nat) : Int)) ∧ (w4.drewN nq).cell? ⟨B5, 1, none⟩ = some (.int .i64 xo) ∧ (w4.drewN nq).cell? ⟨B5, 2, none⟩ = some (.int .i64 x.v) ∧ (w4.drewN nq).cell? ⟨B5, 3, none⟩ = some (.bool x.a) ∧ (w4.drewN nq).cell? ⟨B5, 4, none⟩ = some (.bool x.b) ∧ (w4.drewN nq).cell? ⟨B5, 5, none⟩ = some (.bool x.c) from HE.out)
          have HX5 := Lib.hid (show (w4.drewN nq).cell? ⟨D, 0, none⟩ = some (.int .i64 kind) ∧ (w4.drewN nq).cell? ⟨D, 1, none⟩ = some (.int .i64 pa) ∧ (w4.drewN nq).cell? ⟨D, 2, none⟩ = some (.int .i64 o) ∧ (w4.drewN nq).cell? ⟨D, 3, none⟩ = some (.int .i64 v) ∧ (w4.drewN nq).cell? ⟨D, 4, none⟩ = some (.int .i64 mark) ∧ (w4.drewN nq).cell? ⟨D, 5, none⟩ = some (.bool on) from HX4.out)
          clear e0 e1 e2 e3 e4 e5 x0 x1 x2 x3 x4 x5
          generalize w4.drewN nq = w5 at *
          obtain ⟨x0, x1, x2, x3, x4, x5⟩ := HX5.out
          go_upto_region 12 with (go_at_call 24; refine (do_any kind pa o v mark on t r σ L F G w5 HT5.out.1).mono ?_; rintro e w6 ⟨rfl, σ2, L2, F2, G2, hT2, hc2, hk2⟩)
          have HE6 := Lib.hid (six_chg HE5.out hc2 HBF.out)
          have HB6 := Lib.hid (HT5.out.2.trans (hc2.below (fun b hb => Nat.le_trans HNW.out.2 (HNW.out.1 b hb)) (by have := HT5.out.2.size; have := HD.out; omega)))
          have HT6 := Lib.hid hT2
          have HXM := Lib.hid (hk2 HK9.out x HC.out.2.2.1 HFAR.out)
          have HGT := Lib.hid (Get_is g t σ2 L2 _ _ F2 w6 HC.out.2.2.2 hT2.hp hT2.ab hT2.gd HXM.out HC.out.1)
          simp only [HXO.out] at HGT
          clear hT2 hc2 hk2 x0 x1 x2 x3 x4 x5
          go_upto_region 13 with (go_at_call 20; refine HGT.out.mono ?_; rintro e w7 ⟨rfl, hb7⟩; have HB7 := Lib.hid hb7; clear hb7)
          have hA7 : Below w6.heap.size w6 (w7.alloc (.cells #[.int .i64 ((x.p : Nat) : Int), .int .i64 xo] 29)) := HB7.out.alloc HB7.out.size _
          obtain ⟨z0, z1⟩ := blk2' (heap_alloc_new w7 (.cells #[.int .i64 ((x.p : Nat) : Int), .int .i64 xo] 29))
          obtain ⟨e0, e1, e2, e3, e4, e5⟩ := six_chg (F := []) HE6.out (Chg.of_below hA7) (by simp)
          have HB8 := Lib.hid (HB6.out.trans (hA7.mono (by have := HB6.out.size; have := HD.out; omega)))
          have HP8 := Lib.hid (HT6.out.below hA7)
          clear hA7
          generalize w7.alloc (.cells #[.int .i64 ((x.p : Nat) : Int), .int .i64 xo] 29) = w8 at *
          generalize w7.heap.size = B7 at *
          have HM0 : RowKit.Hid (∀ W, Hp W t σ2 ((L2.length : Nat) : Int) ((cntN σ2.N : Nat) : Int) F2 → Calls Try.prog 25 #[.pointer (some ⟨t, 0, none⟩), .int .i64 (g : Nat), .int .i64 0] W fun e w' => e = .returned (.bool x.a) ∧ Below W.heap.size W w') := Lib.hid (fun W hW => marked_at g 0 t 0 rfl x.a σ2 L2 _ _ F2 HC.out.2.2.2 HT6.out.ab HT6.out.gd HXM.out HC.out.1 (by decide) rfl W hW)
          have HM2 : RowKit.Hid (∀ W, Hp W t σ2 ((L2.length : Nat) : Int) ((cntN σ2.N : Nat) : Int) F2 → Calls Try.prog 25 #[.pointer (some ⟨t, 0, none⟩), .int .i64 (g : Nat), .int .i64 2] W fun e w' => e = .returned (.bool x.c) ∧ Below W.heap.size W w') := Lib.hid (fun W hW => marked_at g 2 t 2 rfl x.c σ2 L2 _ _ F2 HC.out.2.2.2 HT6.out.ab HT6.out.gd HXM.out HC.out.1 (by decide) rfl W hW)
          clear HGT
          generalize x.a = xa at *
          generalize x.b = xb at *
          generalize x.c = xc at *
          generalize x.v = xv at *
          generalize ((x.p : Nat) : Int) = xp at *
          have HC0 := Lib.hid (And.intro e0 (And.intro e1 (And.intro e2 (And.intro e3 (And.intro e4 (And.intro e5 (And.intro z0 z1)))))))
          clear hiI hi0 hil
          go_region_held3 (fun w' => w'.cell? ⟨B5, 0, none⟩ = some (.int .i64 xp) ∧ w'.cell? ⟨B5, 1, none⟩ = some (.int .i64 xo) ∧ w'.cell? ⟨B5, 2, none⟩ = some (.int .i64 xv) ∧ w'.cell? ⟨B5, 3, none⟩ = some (.bool xa) ∧ w'.cell? ⟨B5, 4, none⟩ = some (.bool xb) ∧ w'.cell? ⟨B5, 5, none⟩ = some (.bool xc) ∧ w'.cell? ⟨B7, 0, none⟩ = some (.int .i64 xp) ∧ w'.cell? ⟨B7, 1, none⟩ = some (.int .i64 xo)) (first | exact eight_keep hbb (by assumption) | exact eight_keep hba (by assumption) | go_keep) (first
            | (go_at_call 25; refine (HM2.out wa (HP8.out.hp.drew.below hba)).mono ?_; rintro e wb ⟨rfl, hbb⟩)
            | (go_at_call 25; refine (HM0.out w8.drew HP8.out.hp.drew).mono ?_; rintro e wa ⟨rfl, hba⟩))
          go_wp2_with fail
          go_ret
          have h8 : D ≤ w8.drew.heap.size := by show D ≤ w8.heap.size; have := HB8.out.size; have := HD.out; omega
          exact ⟨rfl, by rw [HD.out]; exact (HB8.out.drew.trans (hba.mono h8)).trans (hbb.mono (Nat.le_trans h8 hba.size))⟩
      · have HFAR := Lib.hid (show ¬ (0 ≤ pa ∧ pa / 64 = ((x.p / 64 : Nat) : Int)) from fun h => c1 h.1)
        go_quiet (fail)
        clear c1 hcp
        have HT5 := Lib.hid (And.intro (HT4.out.drewN nq) (below_drewN HB4.out nq))
        have HE5 := Lib.hid (show (w4.drewN nq).cell? ⟨B5, 0, none⟩ = some (.int .i64 ((x.p : Nat) : Int)) ∧ (w4.drewN nq).cell? ⟨B5, 1, none⟩ = some (.int .i64 xo) ∧ (w4.drewN nq).cell? ⟨B5, 2, none⟩ = some (.int .i64 x.v) ∧ (w4.drewN nq).cell? ⟨B5, 3, none⟩ = some (.bool x.a) ∧ (w4.drewN nq).cell? ⟨B5, 4, none⟩ = some (.bool x.b) ∧ (w4.drewN nq).cell? ⟨B5, 5, none⟩ = some (.bool x.c) from HE.out)
        have HX5 := Lib.hid (show (w4.drewN nq).cell? ⟨D, 0, none⟩ = some (.int .i64 kind) ∧ (w4.drewN nq).cell? ⟨D, 1, none⟩ = some (.int .i64 pa) ∧ (w4.drewN nq).cell? ⟨D, 2, none⟩ = some (.int .i64 o) ∧ (w4.drewN nq).cell? ⟨D, 3, none⟩ = some (.int .i64 v) ∧ (w4.drewN nq).cell? ⟨D, 4, none⟩ = some (.int .i64 mark) ∧ (w4.drewN nq).cell? ⟨D, 5, none⟩ = some (.bool on) from HX4.out)
        clear e0 e1 e2 e3 e4 e5 x0 x1 x2 x3 x4 x5
        generalize w4.drewN nq = w5 at *
        obtain ⟨x0, x1, x2, x3, x4, x5⟩ := HX5.out
        go_upto_region 12 with (go_at_call 24; refine (do_any kind pa o v mark on t r σ L F G w5 HT5.out.1).mono ?_; rintro e w6 ⟨rfl, σ2, L2, F2, G2, hT2, hc2, hk2⟩)
        have HE6 := Lib.hid (six_chg HE5.out hc2 HBF.out)
        have HB6 := Lib.hid (HT5.out.2.trans (hc2.below (fun b hb => Nat.le_trans HNW.out.2 (HNW.out.1 b hb)) (by have := HT5.out.2.size; have := HD.out; omega)))
        have HT6 := Lib.hid hT2
        have HXM := Lib.hid (hk2 HK9.out x HC.out.2.2.1 HFAR.out)
        have HGT := Lib.hid (Get_is g t σ2 L2 _ _ F2 w6 HC.out.2.2.2 hT2.hp hT2.ab hT2.gd HXM.out HC.out.1)
        simp only [HXO.out] at HGT
        clear hT2 hc2 hk2 x0 x1 x2 x3 x4 x5
        go_upto_region 13 with (go_at_call 20; refine HGT.out.mono ?_; rintro e w7 ⟨rfl, hb7⟩; have HB7 := Lib.hid hb7; clear hb7)
        have hA7 : Below w6.heap.size w6 (w7.alloc (.cells #[.int .i64 ((x.p : Nat) : Int), .int .i64 xo] 29)) := HB7.out.alloc HB7.out.size _
        obtain ⟨z0, z1⟩ := blk2' (heap_alloc_new w7 (.cells #[.int .i64 ((x.p : Nat) : Int), .int .i64 xo] 29))
        obtain ⟨e0, e1, e2, e3, e4, e5⟩ := six_chg (F := []) HE6.out (Chg.of_below hA7) (by simp)
        have HB8 := Lib.hid (HB6.out.trans (hA7.mono (by have := HB6.out.size; have := HD.out; omega)))
        have HP8 := Lib.hid (HT6.out.below hA7)
        clear hA7
        generalize w7.alloc (.cells #[.int .i64 ((x.p : Nat) : Int), .int .i64 xo] 29) = w8 at *
        generalize w7.heap.size = B7 at *
        have HM0 : RowKit.Hid (∀ W, Hp W t σ2 ((L2.length : Nat) : Int) ((cntN σ2.N : Nat) : Int) F2 → Calls Try.prog 25 #[.pointer (some ⟨t, 0, none⟩), .int .i64 (g : Nat), .int .i64 0] W fun e w' => e = .returned (.bool x.a) ∧ Below W.heap.size W w') := Lib.hid (fun W hW => marked_at g 0 t 0 rfl x.a σ2 L2 _ _ F2 HC.out.2.2.2 HT6.out.ab HT6.out.gd HXM.out HC.out.1 (by decide) rfl W hW)
        have HM2 : RowKit.Hid (∀ W, Hp W t σ2 ((L2.length : Nat) : Int) ((cntN σ2.N : Nat) : Int) F2 → Calls Try.prog 25 #[.pointer (some ⟨t, 0, none⟩), .int .i64 (g : Nat), .int .i64 2] W fun e w' => e = .returned (.bool x.c) ∧ Below W.heap.size W w') := Lib.hid (fun W hW => marked_at g 2 t 2 rfl x.c σ2 L2 _ _ F2 HC.out.2.2.2 HT6.out.ab HT6.out.gd HXM.out HC.out.1 (by decide) rfl W hW)
        clear HGT
        generalize x.a = xa at *
        generalize x.b = xb at *
        generalize x.c = xc at *
        generalize x.v = xv at *
        generalize ((x.p : Nat) : Int) = xp at *
        have HC0 := Lib.hid (And.intro e0 (And.intro e1 (And.intro e2 (And.intro e3 (And.intro e4 (And.intro e5 (And.intro z0 z1)))))))
        clear hiI hi0 hil
        go_region_held3 (fun w' => w'.cell? ⟨B5, 0, none⟩ = some (.int .i64 xp) ∧ w'.cell? ⟨B5, 1, none⟩ = some (.int .i64 xo) ∧ w'.cell? ⟨B5, 2, none⟩ = some (.int .i64 xv) ∧ w'.cell? ⟨B5, 3, none⟩ = some (.bool xa) ∧ w'.cell? ⟨B5, 4, none⟩ = some (.bool xb) ∧ w'.cell? ⟨B5, 5, none⟩ = some (.bool xc) ∧ w'.cell? ⟨B7, 0, none⟩ = some (.int .i64 xp) ∧ w'.cell? ⟨B7, 1, none⟩ = some (.int .i64 xo)) (first | exact eight_keep hbb (by assumption) | exact eight_keep hba (by assumption) | go_keep) (first
          | (go_at_call 25; refine (HM2.out wa (HP8.out.hp.drew.below hba)).mono ?_; rintro e wb ⟨rfl, hbb⟩)
          | (go_at_call 25; refine (HM0.out w8.drew HP8.out.hp.drew).mono ?_; rintro e wa ⟨rfl, hba⟩))
        go_wp2_with fail
        go_ret
        have h8 : D ≤ w8.drew.heap.size := by show D ≤ w8.heap.size; have := HB8.out.size; have := HD.out; omega
        exact ⟨rfl, by rw [HD.out]; exact (HB8.out.drew.trans (hba.mono h8)).trans (hbb.mono (Nat.le_trans h8 hba.size))⟩


end Go.Proofs.Ytdnnfoojdfmajaa
