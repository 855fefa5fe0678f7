/- Parts of the proofs of layer 7 (walk): contracts of its functions, and the laws' walks. -/
import Derived.Test.YtfolbfacnlhlmaaProg
import Derived.WalkKit
import Derived.WalkSpells
import Derived.WalkLawsBesides
import Derived.BigQuiet
import Derived.Deep.QuietTactic
import Derived.Lib.Hide
import Derived.Deep.RegionHeld3
import Derived.Deep.DeepCutAuto
import Derived.KernelRfl
import Derived.Deep.OwnRows
import Derived.Laws.CopyOwn
import Derived.Laws.CopyRow
import Derived.StillTailTactics
import Derived.Deep.RegionLaw
import Derived.OwnWalk
import Derived.Test.YtfolbfacnlhlmaaW10
namespace Go.Proofs.Ytfolbfacnlhlmaa
open Go.RowKit
set_option linter.unusedVariables false
set_option linter.unusedSimpArgs false

structure LD where
  t : Int
  i : Int
  fr : Int
  p : Bool
  wr : Bool
  hu : Bool
  he : Bool
  us : Bool
  di : Bool
  raw : Bool
  x : Int
/-- What was laid, as it came in. -/
def Lds (w : World) (ao : Option Addr) (len : Nat) (z : Nat → LD) : Prop :=
  ∀ j, j < len → ∃ b o, ao = some ⟨b, o, none⟩ ∧ (w.cell? ⟨b, o + j * 11, none⟩ = some (.int .i64 (z j).t) ∧ w.cell? ⟨b, o + j * 11 + 1, none⟩ = some (.int .i64 (z j).i) ∧ w.cell? ⟨b, o + j * 11 + 2, none⟩ = some (.int .i64 (z j).fr) ∧ w.cell? ⟨b, o + j * 11 + 3, none⟩ = some (.bool (z j).p) ∧ w.cell? ⟨b, o + j * 11 + 4, none⟩ = some (.bool (z j).wr) ∧ w.cell? ⟨b, o + j * 11 + 5, none⟩ = some (.bool (z j).hu) ∧ w.cell? ⟨b, o + j * 11 + 6, none⟩ = some (.bool (z j).he) ∧ w.cell? ⟨b, o + j * 11 + 7, none⟩ = some (.bool (z j).us) ∧ w.cell? ⟨b, o + j * 11 + 8, none⟩ = some (.bool (z j).di) ∧ w.cell? ⟨b, o + j * 11 + 9, none⟩ = some (.bool (z j).raw) ∧ w.cell? ⟨b, o + j * 11 + 10, none⟩ = some (.int .u64 (z j).x)) ∧ 0 ≤ (z j).x ∧ (z j).x < 18446744073709551616
theorem Lds.keep {w w' : World} {ao : Option Addr} {len : Nat} {z : Nat → LD} (h : Lds w ao len z) (hb : Below w.heap.size w w') : Lds w' ao len z := fun j hj => by
  obtain ⟨b, o, e, ⟨c0, c1, c2, c3, c4, c5, c6, c7, c8, c9, c10⟩, h1, h2⟩ := h j hj
  exact ⟨b, o, e, ⟨cell_keep hb c0, cell_keep hb c1, cell_keep hb c2, cell_keep hb c3, cell_keep hb c4, cell_keep hb c5, cell_keep hb c6, cell_keep hb c7, cell_keep hb c8, cell_keep hb c9, cell_keep hb c10⟩, h1, h2⟩
theorem Mem.drew {w : World} {g b n : Nat} {f : Nat → Int} (h : Mem w g b n f) : Mem w.drew g b n f := h
theorem RMem.drew {w : World} {g b n : Nat} {f : Nat → Int} (h : RMem w g b n f) : RMem w.drew g b n f := h
theorem held_oth {w w' : World} {B b : Nat} {t i fr : Int} {p wq hu he us di raw : Bool} {x : Int} (h : B < w.heap.size ∧ w.cell? ⟨B, 0, none⟩ = some (.int .i64 t) ∧ w.cell? ⟨B, 1, none⟩ = some (.int .i64 i) ∧ w.cell? ⟨B, 2, none⟩ = some (.int .i64 fr) ∧ w.cell? ⟨B, 3, none⟩ = some (.bool p) ∧ w.cell? ⟨B, 4, none⟩ = some (.bool wq) ∧ w.cell? ⟨B, 5, none⟩ = some (.bool hu) ∧ w.cell? ⟨B, 6, none⟩ = some (.bool he) ∧ w.cell? ⟨B, 7, none⟩ = some (.bool us) ∧ w.cell? ⟨B, 8, none⟩ = some (.bool di) ∧ w.cell? ⟨B, 9, none⟩ = some (.bool raw) ∧ w.cell? ⟨B, 10, none⟩ = some (.int .u64 x)) (ho : Oth b w w') (hne : B ≠ b) : B < w'.heap.size ∧ w'.cell? ⟨B, 0, none⟩ = some (.int .i64 t) ∧ w'.cell? ⟨B, 1, none⟩ = some (.int .i64 i) ∧ w'.cell? ⟨B, 2, none⟩ = some (.int .i64 fr) ∧ w'.cell? ⟨B, 3, none⟩ = some (.bool p) ∧ w'.cell? ⟨B, 4, none⟩ = some (.bool wq) ∧ w'.cell? ⟨B, 5, none⟩ = some (.bool hu) ∧ w'.cell? ⟨B, 6, none⟩ = some (.bool he) ∧ w'.cell? ⟨B, 7, none⟩ = some (.bool us) ∧ w'.cell? ⟨B, 8, none⟩ = some (.bool di) ∧ w'.cell? ⟨B, 9, none⟩ = some (.bool raw) ∧ w'.cell? ⟨B, 10, none⟩ = some (.int .u64 x) := by
  obtain ⟨h0, c0, c1, c2, c3, c4, c5, c6, c7, c8, c9, c10⟩ := h
  have hh : ∀ q, w'.cell? ⟨B, q, none⟩ = w.cell? ⟨B, q, none⟩ := fun q => World.cell?_of_block (w := w) (ho.2.2.2.2 B h0 hne)
  exact ⟨Nat.lt_of_lt_of_le h0 ho.2.2.2.1, (hh 0).trans c0, (hh 1).trans c1, (hh 2).trans c2, (hh 3).trans c3, (hh 4).trans c4, (hh 5).trans c5, (hh 6).trans c6, (hh 7).trans c7, (hh 8).trans c8, (hh 9).trans c9, (hh 10).trans c10⟩
set_option maxHeartbeats 1000000 in
theorem made_no (fr : Int) (ao : Option Addr) (len cap : Nat) (w : World) (h : fr < 8 ∨ 1024 < fr) : Calls Try.prog 7 #[.int .i64 fr, .slice ao len cap] w fun e w' => e = .returned (.tuple #[.pointer none, .pointer none, .bool true]) ∧ w = w' := by
  go_enter Try.func7, Try.ntmps7
  go_wp2_with fail
  refine (new_no fr _ h).mono ?_
  rintro e _ ⟨rfl, rfl⟩
  go_wp2_with fail
  refine (rnew_no fr _ h).mono ?_
  rintro e _ ⟨rfl, rfl⟩
  go_wp2_with fail
  refine wp_loop_rounds 1 ?_
  rw [rounds_succ]
  go_wp2_with fail
  go_ret3
  exact ⟨rfl, rfl⟩
set_option maxRecDepth 100000 in
set_option maxHeartbeats 4000000 in
theorem made_ok (F : Nat) (ao : Option Addr) (len cap : Nat) (z : Nat → LD) (w : World) (h0 : 8 ≤ F) (h1 : F ≤ 1024) (hlc : len ≤ cap) (hcm : cap ≤ maxLen) (hL : Lds w ao len z) :
    Calls Try.prog 7 #[.int .i64 F, .slice ao len cap] w fun e w' => ∃ g b g2 b2 f, e = .returned (.tuple #[.pointer (some ⟨g, 0, none⟩), .pointer (some ⟨g2, 0, none⟩), .bool true]) ∧ Mem w' g b (F * 64) f ∧ RMem w' g2 b2 (F * 8) (wv f) ∧ Below w.heap.size w w' := by
  have HL := Lib.hid hL
  unfold maxLen at hcm
  clear hL
  go_enter Try.func7, Try.ntmps7
  go_wp2_with fail
  refine (new_any F _ h0 h1).mono ?_
  rintro e w1 ⟨rfl, hb1, hm1, hs1⟩
  have HB1 := Lib.hid hb1
  have HM1 := Lib.hid hm1
  clear hb1 hm1
  go_wp2_with fail
  refine (rnew_any F _ h0 h1).mono ?_
  rintro e w2 ⟨rfl, hb2, hm2, hs2⟩
  have HB2 := Lib.hid (HB1.out.trans (hb2.mono HB1.out.size))
  have HM2 := Lib.hid (HM1.out.below hb2)
  have HR2 : RowKit.Hid (RMem w2 (w1.heap.size + 1) w1.heap.size (F * 8) (wv fun _ => 0)) := Lib.hid (by rw [show wv (fun _ => 0) = fun _ => 0 from rfl]; exact hm2)
  have hne1 : w.heap.size + 1 < w1.heap.size := by omega
  clear hb2 hm2 hs1 hs2
  go_wp2_with fail
  go_loopw [11] (fun s wr => ∃ (k : Nat) (f : Nat → Int), k ≤ 80 ∧ s = .int .i64 k ∧ RowKit.Hid (Below w.heap.size w wr ∧ Mem wr (w.heap.size + 1) w.heap.size (F * 64) f ∧ RMem wr (w1.heap.size + 1) w1.heap.size (F * 8) (wv f))) (fun s _ => 80 - (intOf s).toNat)
  case atStart => exact ⟨0, fun _ => 0, by omega, rfl, Lib.hid ⟨HB2.out, HM2.out, HR2.out⟩⟩
  case round =>
    obtain ⟨k, f, hk80, rfl, HI⟩ := hrel
    by_cases hlt : k < len
    · by_cases hl8 : k < 80
      · have d1 : decide ((k : Int) < (len : Int)) = true := decide_eq_true (by omega)
        have d2 : decide ((k : Int) < 80) = true := decide_eq_true (by omega)
        obtain ⟨lb, lo, rfl, hcells, hx0, hx1⟩ := HL.out.keep HI.out.1 k hlt
        generalize z k = d at hcells hx0 hx1
        obtain ⟨t, i, fr, p, wq, hu, he, us, di, raw, x⟩ := d
        dsimp only at hcells hx0 hx1
        obtain ⟨c0, c1, c2, c3, c4, c5, c6, c7, c8, c9, c10⟩ := hcells
        have hA : Below wr.heap.size wr (wr.alloc (Obj.cells #[.int .i64 t, .int .i64 i, .int .i64 fr, .bool p, .bool wq, .bool hu, .bool he, .bool us, .bool di, .bool raw, .int .u64 x] 27 (0, 0))) := (Below.refl _ _).alloc (Nat.le_refl _) _
        have hN : (wr.alloc (Obj.cells #[.int .i64 t, .int .i64 i, .int .i64 fr, .bool p, .bool wq, .bool hu, .bool he, .bool us, .bool di, .bool raw, .int .u64 x] 27 (0, 0))).heap[wr.heap.size]? = some (.cells #[.int .i64 t, .int .i64 i, .int .i64 fr, .bool p, .bool wq, .bool hu, .bool he, .bool us, .bool di, .bool raw, .int .u64 x] 27 (0, 0)) := Deep.blk_alloc_new _ _
        have HBA := Lib.hid (HI.out.1.trans (hA.mono HI.out.1.size))
        have HMA := Lib.hid (HI.out.2.1.below hA)
        have HRA := Lib.hid (HI.out.2.2.below hA)
        have hzA : wr.heap.size < (wr.alloc (Obj.cells #[.int .i64 t, .int .i64 i, .int .i64 fr, .bool p, .bool wq, .bool hu, .bool he, .bool us, .bool di, .bool raw, .int .u64 x] 27 (0, 0))).heap.size := by rw [World.size_alloc]; omega
        have hzw : w1.heap.size + 1 < wr.heap.size := HI.out.2.2.lt.1
        clear hA HI
        go_upto_region 9 with fail
        clear c0 c1 c2 c3 c4 c5 c6 c7 c8 c9 c10
        generalize wr.alloc (Obj.cells #[.int .i64 t, .int .i64 i, .int .i64 fr, .bool p, .bool wq, .bool hu, .bool he, .bool us, .bool di, .bool raw, .int .u64 x] 27 (0, 0)) = wA at *
        obtain ⟨c0, c1, c2, c3, c4, c5, c6, c7, c8, c9, c10⟩ := row11 hN
        cases raw
        · have HROW := Lib.hid (show wr.heap.size < wA.heap.size ∧ wA.cell? ⟨wr.heap.size, 0, none⟩ = some (.int .i64 t) ∧ wA.cell? ⟨wr.heap.size, 1, none⟩ = some (.int .i64 i) ∧ wA.cell? ⟨wr.heap.size, 2, none⟩ = some (.int .i64 fr) ∧ wA.cell? ⟨wr.heap.size, 3, none⟩ = some (.bool p) ∧ wA.cell? ⟨wr.heap.size, 4, none⟩ = some (.bool wq) ∧ wA.cell? ⟨wr.heap.size, 5, none⟩ = some (.bool hu) ∧ wA.cell? ⟨wr.heap.size, 6, none⟩ = some (.bool he) ∧ wA.cell? ⟨wr.heap.size, 7, none⟩ = some (.bool us) ∧ wA.cell? ⟨wr.heap.size, 8, none⟩ = some (.bool di) ∧ wA.cell? ⟨wr.heap.size, 9, none⟩ = some (.bool false) ∧ wA.cell? ⟨wr.heap.size, 10, none⟩ = some (.int .u64 x) from ⟨hzA, c0, c1, c2, c3, c4, c5, c6, c7, c8, c9, c10⟩)
          go_upto_region 13 with fail
          go_region_held3 (fun w' => wr.heap.size < w'.heap.size ∧ w'.cell? ⟨wr.heap.size, 0, none⟩ = some (.int .i64 t) ∧ w'.cell? ⟨wr.heap.size, 1, none⟩ = some (.int .i64 i) ∧ w'.cell? ⟨wr.heap.size, 2, none⟩ = some (.int .i64 fr) ∧ w'.cell? ⟨wr.heap.size, 3, none⟩ = some (.bool p) ∧ w'.cell? ⟨wr.heap.size, 4, none⟩ = some (.bool wq) ∧ w'.cell? ⟨wr.heap.size, 5, none⟩ = some (.bool hu) ∧ w'.cell? ⟨wr.heap.size, 6, none⟩ = some (.bool he) ∧ w'.cell? ⟨wr.heap.size, 7, none⟩ = some (.bool us) ∧ w'.cell? ⟨wr.heap.size, 8, none⟩ = some (.bool di) ∧ w'.cell? ⟨wr.heap.size, 9, none⟩ = some (.bool false) ∧ w'.cell? ⟨wr.heap.size, 10, none⟩ = some (.int .u64 x)) (first | exact held_oth (by assumption) ho1 (by omega) | exact held_oth (by assumption) ho2 (by omega) | exact HROW.out | go_keep)
            (first
              | (go_at_call 13; refine (put_any (w.heap.size + 1) w.heap.size (F * 64) f t i fr p wq hu he us di _ HMA.out.drew).mono ?_; rintro e wa ⟨rfl, ho1, hm1⟩)
              | (go_at_call 19; refine (rput_any (w1.heap.size + 1) w1.heap.size (F * 8) (F * 64) f t i fr p wq hu he us di _ (RMem.oth HRA.out.drew ho1 (by omega) (by omega)) (by omega)).mono ?_; rintro e wb ⟨rfl, ho2, hm2⟩))
          have HM5 := Lib.hid (Mem.oth hm1 ho2 (by omega) (by omega))
          have HR5 := Lib.hid hm2
          have HB5 := Lib.hid ((HBA.out.drew.trans (ho1.below (Nat.le_refl _) HBA.out.size)).trans (ho2.below (by omega) (Nat.le_trans HBA.out.size ho1.2.2.2.1)))
          go_wp2_with fail
          go_round
          case rel => exact ⟨k + 1, _, by omega, by go_num, Lib.hid ⟨HB5.out, HM5.out, HR5.out⟩⟩
          case measure => simp [intOf]; omega
        · go_wp2_with (first
              | (go_at_call 17; refine (store_step (w.heap.size + 1) w.heap.size (F * 64) f _ x _ HMA.out ⟨hx0, hx1⟩).mono ?_; rintro e wa ⟨rfl, ho1, hm1⟩; have HO1 := Lib.hid ho1; have HM4 := Lib.hid hm1; have hne : wr.heap.size ≠ w.heap.size := (by omega); have hh : ∀ q, wa.cell? ⟨wr.heap.size, q, none⟩ = wA.cell? ⟨wr.heap.size, q, none⟩ := (fun q => World.cell?_of_block (w := wA) (ho1.2.2.2.2 _ hzA hne)); clear ho1 hm1)
              | (go_at_call 18; refine (rstore_step (w1.heap.size + 1) w1.heap.size (F * 8) (F * 64) f _ x _ (RMem.oth HRA.out HO1.out (by omega) (by omega)) (by omega) ⟨hx0, hx1⟩).mono ?_; rintro e wb ⟨rfl, ho2, hm2⟩; have HM5 := Lib.hid (Mem.oth HM4.out ho2 (by omega) (by omega)); have HR5 := Lib.hid hm2; have HB5 := Lib.hid ((HBA.out.trans (HO1.out.below (Nat.le_refl _) HBA.out.size)).trans (ho2.below (by omega) (Nat.le_trans HBA.out.size HO1.out.2.2.2.1))); clear ho2 hm2))
          all_goals
            go_round
            case rel => first | exact ⟨k + 1, _, by omega, by go_num, Lib.hid ⟨HB5.out, HM5.out, HR5.out⟩⟩ | exact ⟨k + 1, _, by omega, by go_num, Lib.hid ⟨HBA.out, HMA.out, HRA.out⟩⟩
            case measure => simp [intOf]; omega
      · have d1 : decide ((k : Int) < (len : Int)) = true := decide_eq_true (by omega)
        have d2 : decide ((k : Int) < 80) = false := decide_eq_false (by omega)
        go_wp2_with fail
        go_ret3
        exact ⟨_, _, _, _, _, rfl, HI.out.2.1, HI.out.2.2, HI.out.1⟩
    · have d1 : decide ((k : Int) < (len : Int)) = false := decide_eq_false (by omega)
      go_wp2_with fail
      go_ret3
      exact ⟨_, _, _, _, _, rfl, HI.out.2.1, HI.out.2.2, HI.out.1⟩

end Go.Proofs.Ytfolbfacnlhlmaa
