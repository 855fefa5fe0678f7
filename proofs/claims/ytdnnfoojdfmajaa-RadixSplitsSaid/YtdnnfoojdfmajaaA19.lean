/- Parts of the proofs of layer 19 (radix): contracts of its functions, and the laws' walks. -/
import Derived.Test.YtdnnfoojdfmajaaProg
import Derived.WalkKit
import Derived.WalkSpells
import Derived.WalkLawsBesides
import Derived.BigQuiet
import Derived.Deep.QuietTactic
import Derived.Lib.Hide
import Derived.Deep.RegionHeld3
import Derived.Deep.DeepCutAuto
import Derived.KernelRfl
import Derived.Deep.OwnRows
import Derived.Laws.CopyOwn
import Derived.Laws.CopyRow
import Derived.StillTailTactics
import Derived.Deep.RegionLaw
import Derived.Handy
import Derived.Deep.CutRange
import Derived.Deep.CutBlock
import Derived.Test.YtdnnfoojdfmajaaR12
import Derived.Test.YtdnnfoojdfmajaaA17
namespace Go.Proofs.Ytdnnfoojdfmajaa
open Go.RowKit
set_option linter.unusedVariables false
set_option linter.unusedSimpArgs false

theorem wr3 {a s : Nat} (h : a < 4096) (hs : s ≤ 64) (h1 : 0 < s) : IntKind.i64.wrap (((a : Nat) : Int) + ((s : Nat) : Int)) = ((a : Nat) : Int) + ((s : Nat) : Int) ∧ IntKind.i64.wrap (((a : Nat) : Int) + ((s : Nat) : Int) - 1) = ((a + s - 1 : Nat) : Int) := by
  rw [IntKind.wrap_i64, IntKind.wrap_i64]; omega
theorem new29 (w2 : World) : (w2.drew.alloc (.cells #[.int .i64 0, .int .i64 0] 29)).cell? ⟨w2.heap.size, 0, none⟩ = some (.int .i64 0) ∧ (w2.drew.alloc (.cells #[.int .i64 0, .int .i64 0] 29)).cell? ⟨w2.heap.size, 1, none⟩ = some (.int .i64 0) ∧ (w2.drew.alloc (.cells #[.int .i64 0, .int .i64 0] 29)).frozen? ⟨w2.heap.size, 0, none⟩ = false ∧ (w2.drew.alloc (.cells #[.int .i64 0, .int .i64 0] 29)).frozen? ⟨w2.heap.size, 1, none⟩ = false ∧ w2.heap.size < (w2.drew.alloc (.cells #[.int .i64 0, .int .i64 0] 29)).heap.size := by
  have hzn := heap_alloc_new w2.drew (.cells #[.int .i64 0, .int .i64 0] 29)
  exact ⟨cell_of_row _ _ 0 _ 29 _ hzn, cell_of_row _ _ 1 _ 29 _ hzn, frozen_of_row _ _ 0 _ 29 hzn, frozen_of_row _ _ 1 _ 29 hzn, lt_of_block hzn⟩
theorem mcellY {w w' : World} {b mk : Nat} {x : X} {HM : Below w.heap.size w w'} (h : w.cell? ⟨b, 3, none⟩ = some (.bool x.a) ∧ w.cell? ⟨b, 4, none⟩ = some (.bool x.b) ∧ w.cell? ⟨b, 5, none⟩ = some (.bool x.c)) (hm : mk < 3) : w'.cell? ⟨b, 3 + mk, none⟩ = some (.bool (x.m mk)) := by
  rcases (show mk = 0 ∨ mk = 1 ∨ mk = 2 by omega) with rfl | rfl | rfl
  · exact cell_keep HM h.1
  · exact cell_keep HM h.2.1
  · exact cell_keep HM h.2.2
theorem two_keep' {w w' : World} {a b : Addr} {u v : Value} (h : Below w.heap.size w w') (k : w.cell? a = some u ∧ w.cell? b = some v) : w'.cell? a = some u ∧ w'.cell? b = some v := ⟨cell_keep h k.1, cell_keep h k.2⟩
theorem rnodes_is' {w : World} {t r : Nat} {σ : St} {L : List X} {F G : List Nat} (hr : Rt w r G L) (hab : Ab σ L) (hg : Good L) : Calls Try.prog 18 #[.pointer (some ⟨r, 0, none⟩)] w fun e w' => e = .returned (.int .i64 ((cntN σ.N : Nat) : Int)) ∧ Below w.heap.size w w' := by
  by_cases hl : L = []
  · subst hl
    rw [cnt_none hab]
    exact RNodes_nil r G w hr
  · refine (RNodes_any r G L w hr hg hl).mono ?_
    rintro e w' ⟨o, ho, rfl, hb⟩
    rw [cnt_nodes hab hg hl ho]
    exact ⟨rfl, hb⟩
theorem marked_is (g m t : Nat) (σ : St) (L : List X) (many nodes : Int) (F : List Nat) (hg : g < 4096) (hab : Ab σ L) (hgd : Good L) {x : X} (hx : x ∈ L) (hc : Cov x g) (hm : m < 3) (w : World) (h : Hp w t σ many nodes F) :
    Calls Try.prog 25 #[.pointer (some ⟨t, 0, none⟩), .int .i64 (g : Nat), .int .i64 (m : Nat)] w fun e w' => e = .returned (.bool (x.m m)) ∧ Below w.heap.size w w' := by
  obtain ⟨l, e, hA, hE⟩ := hab.at_ hgd hx hg hc
  refine (Marked_any g t (m : Nat) σ many nodes F w hg h).mono ?_
  rintro e' w' ⟨hb, ⟨hn, _⟩ | ⟨κ, x', l', hA', hE', ⟨hm', _⟩ | ⟨_, rfl⟩⟩⟩
  · exact absurd hn (hA.not_nf hE hg)
  · omega
  · obtain ⟨rfl, rfl⟩ := hA.uniq hA'
    refine ⟨?_, hb⟩
    congr 2
    rw [Int.toNat_natCast, Bool.eq_iff_iff, hab.m _ _ _ (by have := (hgd.1 x hx).1; omega) hm]
    constructor
    · rintro ⟨y, hy, b1, b2, b3⟩
      have := slot_uniq hgd hx hc hy b1 b2
      subst this
      exact b3
    · exact fun h => ⟨x, hx, Nat.le_refl _, ((hgd.1 x hx).cov g).1 hc, h⟩
set_option maxRecDepth 100000 in
set_option maxHeartbeats 16000000 in
theorem same_any (t r : Nat) (σ : St) (L : List X) (F G : List Nat) (w : World) (h : Tw w t r σ L F G) : Calls Try.prog 22 #[.pointer (some ⟨t, 0, none⟩), .pointer (some ⟨r, 0, none⟩)] w fun e w' => e = .returned (.bool true) ∧ Below w.heap.size w w' := by
  have HT := Lib.hid h
  have hlen : L.length ≤ 4096 := h.gd.length
  clear h
  go_enter Try.func22, Try.ntmps22
  go_wp2_with fail
  go_loopw [5] (fun s wr => ∃ (i : Nat), i ≤ L.length ∧ s = .int .i64 (i : Nat) ∧ RowKit.Hid (Below w.heap.size w wr)) (fun s _ => L.length - (intOf s).toNat)
  case atStart => exact ⟨0, Nat.zero_le _, rfl, Lib.hid (Below.refl _ _)⟩
  case round =>
    obtain ⟨i, hi, rfl, HL⟩ := hrel
    have HTR := Lib.hid (HT.out.below HL.out)
    obtain ⟨ao, cap, c0, hT, _⟩ := HTR.out.rt.cells
    by_cases hil : i < L.length
    · have hiI : ((i : Nat) : Int) < ((L.length : Nat) : Int) := by omega
      have hi0 : (0 : Int) ≤ ((i : Nat) : Int) := by omega
      obtain ⟨bl, cl2, hv', _, _, _, hcell, _⟩ := hT.read (ne_nil_of_lt hil)
      cases hv'
      have hk := List.getElem?_eq_getElem hil
      generalize L[i] = x at hk
      obtain ⟨e0, e1, e2, e3, e4, e5⟩ := hcell i x hk
      have hxm := List.mem_of_getElem? hk
      have hxo := HTR.out.gd.1 x hxm
      have HX := Lib.hid (And.intro hxm hxo)
      have hA4 : Below wr.heap.size wr (wr.alloc (.cells #[.int .i64 ((x.p : Nat) : Int), .int .i64 (3 * ((x.k : Nat) : Int)), .int .i64 x.v, .bool x.a, .bool x.b, .bool x.c] 40)) := (Below.refl _ _).alloc (Nat.le_refl _) _
      have HT4 := Lib.hid (And.intro (HTR.out.below hA4) (HL.out.trans (hA4.mono HL.out.size)))
      clear hcell hT hk hxm hA4
      go_upto_region 5 with fail
      clear e0 e1 e2 e3 e4 e5 c0
      obtain ⟨e0, e1, e2, e3, e4, e5⟩ := newX x wr
      have hB5 : wr.heap.size < (wr.alloc (.cells #[.int .i64 ((x.p : Nat) : Int), .int .i64 (3 * ((x.k : Nat) : Int)), .int .i64 x.v, .bool x.a, .bool x.b, .bool x.c] 40)).heap.size := lt_of_block (heap_alloc_new _ _)
      generalize wr.alloc (.cells #[.int .i64 ((x.p : Nat) : Int), .int .i64 (3 * ((x.k : Nat) : Int)), .int .i64 x.v, .bool x.a, .bool x.b, .bool x.c] 40) = w4 at *
      generalize wr.heap.size = B5 at *
      have hxp : x.p < 4096 := hxo.lt
      have hs64 : 8 ^ x.k ≤ 64 := by rcases k3 hxo.1 with e | e | e <;> rw [e] <;> decide
      have hsp : 0 < 8 ^ x.k := Nat.pow_pos (by decide)
      have HSZ := Lib.hid (fun W => siz_at hxo.1 W)
      have hcov : Cov x (x.p + 8 ^ x.k - 1) := ⟨by omega, by omega⟩
      have hg4 : x.p + 8 ^ x.k - 1 < 4096 := by have := hxo.2.2.1; omega
      obtain ⟨q1, q2⟩ := wr3 hxp hs64 hsp
      have HGT := Lib.hid (fun W (hb : Below w4.heap.size w4 W) => Get_is (x.p + 8 ^ x.k - 1) t σ L _ _ F W hg4 (HT4.out.1.hp.below hb) HT4.out.1.ab HT4.out.1.gd HX.out.1 hcov)
      generalize 8 ^ x.k = sz at *
      obtain ⟨pg, hpg⟩ : ∃ pg, x.p + sz - 1 = pg := ⟨_, rfl⟩
      rw [hpg] at HGT q2
      obtain ⟨ko, hko⟩ : ∃ ko, 3 * ((x.k : Nat) : Int) = ko := ⟨_, rfl⟩
      simp only [hko] at HGT HSZ e1
      clear hxp hs64 hsp hcov hg4 hpg hko hxo
      have hD : Below w4.heap.size w4 w4.drew := (Below.refl _ _).drew
      have HD := Lib.hid (And.intro hD (hD.alloc (Nat.le_refl _) (.cells #[.int .i64 0, .int .i64 0] 29)))
      have HZ := Lib.hid (new29 w4)
      have n1 : B5 ≠ w4.heap.size := by omega
      clear hD hB5
      have HE := Lib.hid (And.intro e0 (And.intro e1 (And.intro e2 (And.intro e3 (And.intro e4 e5)))))
      go_cut [7, 8, 9] from 27 to 39 (fun s7 s8 s9 wx => s7 = .int .i64 x.v ∧ s9 = .int .i64 0 ∧ ∃ W : World, W = wx ∧ ∃ B : Nat, s8 = .pointer (some ⟨B, 0, none⟩) ∧ RowKit.Hid (W.cell? ⟨B, 0, none⟩ = some (.int .i64 (x.p : Nat)) ∧ W.cell? ⟨B, 1, none⟩ = some (.int .i64 ko) ∧ Below w4.heap.size w4 W ∧ True))
      case first =>
        go_region_held3 (fun w' => w'.cell? ⟨B5, 0, none⟩ = some (.int .i64 (x.p : Nat)) ∧ w'.cell? ⟨B5, 1, none⟩ = some (.int .i64 ko)) (first | exact ⟨ha5, hbs⟩ | exact ⟨cell_alloc ha5 _, cell_alloc hbs _⟩ | exact ⟨cell_far ha5 n1, cell_far hbs n1⟩ | exact ⟨e0, e1⟩ | exact ⟨cell_alloc e0 _, cell_alloc e1 _⟩ | go_keep) (first
          | (go_at_call 14; refine (HSZ.out _).mono ?_; rintro e w9 ⟨rfl, rfl⟩)
          | (go_at_call 20; refine Calls.mono (HGT.out _ HD.out.1) ?_; rintro e w5 ⟨rfl, hb5⟩; have ha5 := cell_keep hb5 (cell_keep HD.out.1 e0); have hbs := cell_keep hb5 (cell_keep HD.out.1 e1))
          | (go_at_call 20; refine Calls.mono (HGT.out _ HD.out.2) ?_; rintro e w5 ⟨rfl, hb5⟩; have ha5 := cell_keep hb5 (cell_keep HD.out.2 e0); have hbs := cell_keep hb5 (cell_keep HD.out.2 e1); have z0 := cell_keep hb5 HZ.out.1; have z1 := cell_keep hb5 HZ.out.2.1; have zf0 := (hb5.frozen HZ.out.2.2.2.2).trans HZ.out.2.2.1; have zf1 := (hb5.frozen HZ.out.2.2.2.2).trans HZ.out.2.2.2.1))
        all_goals (
          go_wp2_with fail
          go_meet
          case rel =>
            first
              | exact ⟨rfl, rfl, _, rfl, _, rfl, Lib.hid (mk_alloc HD.out.1 hb5 trivial)⟩
              | exact ⟨rfl, rfl, _, rfl, _, rfl, Lib.hid (mk_set HD.out.2 hb5 z0 z1 (Nat.le_refl _) trivial)⟩)
      case rest =>
        obtain ⟨rfl, rfl, W, hW, B, rfl, HB⟩ := hcut
        subst hW
        have HTW := Lib.hid (And.intro (HT4.out.1.below HB.out.2.2.1) (HT4.out.2.trans (HB.out.2.2.1.mono HT4.out.2.size)))
        have z0 := HB.out.1
        have z1 := HB.out.2.1
        have e0 := cell_keep HB.out.2.2.1 HE.out.1
        have e1 := cell_keep HB.out.2.2.1 HE.out.2.1
        have e2 := cell_keep HB.out.2.2.1 HE.out.2.2.1
        have HE2 := Lib.hid (And.intro e0 (And.intro (cell_keep HB.out.2.2.1 HE.out.2.2.2.1) (And.intro (cell_keep HB.out.2.2.1 HE.out.2.2.2.2.1) (cell_keep HB.out.2.2.1 HE.out.2.2.2.2.2))))
        clear q1 q2 n1
        generalize x.v = xv at *
        go_wp2_with fail
        clear e0 e1 e2 z0 z1
        go_loopw [10] (fun s wx => ∃ (m : Nat), m ≤ 3 ∧ s = .int .i64 (m : Nat) ∧ RowKit.Hid (Below W.heap.size W wx)) (fun s _ => 3 - (intOf s).toNat)
        case atStart => exact ⟨0, by omega, rfl, Lib.hid (Below.refl _ _)⟩
        case round =>
          obtain ⟨m, hm3, rfl, HM⟩ := hrel
          by_cases hm : m < 3
          · have hmI : ((m : Nat) : Int) < 3 := by omega
            have hm0 : (0 : Int) ≤ ((m : Nat) : Int) := by omega
            have e0 := cell_keep HM.out HE2.out.1
            have e6 := mcellY (HM := HM.out) HE2.out.2 hm
            have HTM := Lib.hid (HTW.out.1.below HM.out)
            have HMK := Lib.hid (marked_is x.p m t σ L _ _ F HX.out.2.lt HTM.out.ab HTM.out.gd HX.out.1 ⟨Nat.le_refl _, by have : 0 < 8 ^ x.k := Nat.pow_pos (by decide); omega⟩ hm wr.drew HTM.out.hp.drew)
            generalize x.m m = xm at *
            have hn1 : (xm != xm) = false := by simp
            go_upto_region 11 with fail
            go_region_held3 (fun w' => w'.cell? ⟨B5, 0, none⟩ = some (.int .i64 (x.p : Nat)) ∧ w'.cell? ⟨B5, 3 + m, none⟩ = some (.bool xm)) (first | exact ⟨cell_keep hbm (by assumption), cell_keep hbm (by assumption)⟩ | exact two_keep' hbm (by assumption) | exact ⟨e0, e6⟩ | go_keep) (first
              | (go_at_call 25; refine HMK.out.mono ?_; rintro e wm ⟨rfl, hbm⟩))
            have HN := Lib.hid (HM.out.drew.trans (hbm.mono (show W.heap.size ≤ wr.drew.heap.size from HM.out.size)))
            clear e0 e6 hbm
            go_wp2_with fail
            exact ⟨⟨m + 1, hm, by simp, Lib.hid HN.out⟩, by simp [intOf]; omega⟩
          · obtain rfl : m = 3 := by omega
            go_wp2_with fail
            exact ⟨⟨i + 1, hil, by simp, Lib.hid (HTW.out.2.trans (HM.out.mono HTW.out.2.size))⟩, by simp [intOf]; omega⟩
    · obtain rfl : i = L.length := by omega
      clear hT
      have HPN := Lib.hid (fun W (hb : Below wr.drew.heap.size wr.drew W) => Nodes_any t σ _ _ F W (HTR.out.hp.drew.below hb))
      have HLN := Lib.hid (Len_any t σ _ _ F wr.drew HTR.out.hp.drew)
      have HRN := Lib.hid (rnodes_is' (t := t) (F := F) HTR.out.rt.drew HTR.out.ab HTR.out.gd)
      generalize ((cntN σ.N : Nat) : Int) = cc at *
      go_upto_region 13 with fail
      go_region_held3 (fun w' => w'.cell? ⟨r, 0, none⟩ = some (.slice ao L.length cap)) (first | exact cell_keep hbc (by assumption) | exact c0 | go_keep) (first
        | (go_at_call 19; refine HLN.out.mono ?_; rintro e wx ⟨rfl, rfl⟩)
        | (go_at_call 17; refine (HPN.out _ (Below.refl _ _)).mono ?_; rintro e wx ⟨rfl, rfl⟩)
        | (go_at_call 18; refine HRN.out.mono ?_; rintro e wc ⟨rfl, hbc⟩))
      have HN := Lib.hid (HL.out.drew.trans (hbc.mono (show w.heap.size ≤ wr.drew.heap.size from HL.out.size)))
      clear hbc c0
      go_wp2_with fail
      go_ret
      exact ⟨rfl, HN.out⟩

end Go.Proofs.Ytdnnfoojdfmajaa
