/- Parts of the proofs of layer 19 (radix): contracts of its functions, and the laws' walks. -/
import Derived.Test.YtdnnfoojdfmajaaProg
import Derived.WalkKit
import Derived.WalkSpells
import Derived.WalkLawsBesides
import Derived.BigQuiet
import Derived.Deep.QuietTactic
import Derived.Lib.Hide
import Derived.Deep.RegionHeld3
import Derived.Deep.DeepCutAuto
import Derived.KernelRfl
import Derived.Deep.OwnRows
import Derived.Laws.CopyOwn
import Derived.Laws.CopyRow
import Derived.StillTailTactics
import Derived.Deep.RegionLaw
import Derived.Handy
import Derived.Deep.CutRange
import Derived.Deep.CutBlock
import Derived.Test.YtdnnfoojdfmajaaX18
namespace Go.Proofs.Ytdnnfoojdfmajaa
open Go.RowKit
set_option linter.unusedVariables false
set_option linter.unusedSimpArgs false

def OkX (page mark : Int) (x : X) : Prop := page < (x.p : Int) + ((8 ^ x.k : Nat) : Int) ∧ (mark < 0 ∨ x.m mark.toNat = true)
def InN (x : X) (k P : Nat) : Prop := x.k ≤ k ∧ x.p / 8 ^ (k + 1) = P
/-- What a node's search tells. -/
def Nx (L : List X) (page mark : Int) (k P : Nat) (e : Ending) : Prop :=
  (∃ x ∈ L, InN x k P ∧ OkX page mark x ∧ (∀ y ∈ L, InN y k P → OkX page mark y → x.p ≤ y.p) ∧ e = .returned (.tuple #[.agg #[.int .i64 (x.p : Nat), .int .i64 (3 * ((x.k : Nat) : Int))], .bool true])) ∨
  ((∀ y ∈ L, InN y k P → ¬ OkX page mark y) ∧ e = .returned (.tuple #[.agg #[.int .i64 0, .int .i64 0], .bool false]))
/-- No entry of the node's first s slots is meant. -/
def Upto (L : List X) (page mark : Int) (k P s : Nat) : Prop := ∀ y ∈ L, y.k ≤ k → y.p / 8 ^ (k + 1) = P → y.p / 8 ^ k < 8 * P + s → ¬ OkX page mark y
theorem Upto.more {L : List X} {page mark : Int} {k P s : Nat} (h : Upto L page mark k P s) (hn : ∀ y ∈ L, y.k ≤ k → y.p / 8 ^ k = 8 * P + s → ¬ OkX page mark y) : Upto L page mark k P (s + 1) := fun y hy h1 h2 h3 => by
  by_cases hs : y.p / 8 ^ k = 8 * P + s
  · exact hn y hy h1 hs
  · exact h y hy h1 h2 (by omega)
theorem Upto.all {L : List X} {page mark : Int} {k P : Nat} (h : Upto L page mark k P 8) : ∀ y ∈ L, InN y k P → ¬ OkX page mark y := fun y hy hi => h y hy hi.1 hi.2 (by have := hi.2; rw [div_step] at this; omega)
theorem Upto.found {L : List X} {page mark : Int} {k P s : Nat} (h : Upto L page mark k P s) (hg : Good L) (hk : k ≤ 3) (hs : s < 8) {x : X} (hx : x ∈ L) (hxk : x.k ≤ k) (hxq : x.p / 8 ^ k = 8 * P + s) (hok : OkX page mark x)
    (hmin : ∀ y ∈ L, y.k ≤ k → y.p / 8 ^ k = 8 * P + s → OkX page mark y → x.p ≤ y.p) {e : Ending} (he : e = .returned (.tuple #[.agg #[.int .i64 (x.p : Nat), .int .i64 (3 * ((x.k : Nat) : Int))], .bool true])) : Nx L page mark k P e := by
  refine .inl ⟨x, hx, ⟨hxk, by rw [div_step, hxq]; omega⟩, hok, fun y hy hi ho => ?_, he⟩
  by_cases h1 : y.p / 8 ^ k < 8 * P + s
  · exact absurd ho (h y hy hi.1 hi.2 h1)
  · by_cases h2 : y.p / 8 ^ k = 8 * P + s
    · exact hmin y hy hi.1 h2 ho
    · have a := (hg.1 x hx).slot hk hxk hxq
      have b := (hg.1 y hy).slot hk hi.1 rfl
      have c : (8 * P + s + 1) * 8 ^ k ≤ y.p / 8 ^ k * 8 ^ k := Nat.mul_le_mul_right _ (by omega)
      have d : 0 < 8 ^ x.k := Nat.pos_of_ne_zero (by simp)
      omega
theorem skip_page {L : List X} {page mark : Int} {k q : Nat} (hg : Good L) (hk : k ≤ 3) (h : ((q * 8 ^ k : Nat) : Int) + ((8 ^ k : Nat) : Int) ≤ page) : ∀ y ∈ L, y.k ≤ k → y.p / 8 ^ k = q → ¬ OkX page mark y := fun y hy h1 h2 ho => by
  have a := (hg.1 y hy).slot hk h1 h2
  have b := ho.1
  have c : (q + 1) * 8 ^ k = q * 8 ^ k + 8 ^ k := by rw [Nat.add_mul, Nat.one_mul]
  omega
theorem skip_mark {σ : St} {L : List X} {page : Int} {mk k q : Nat} (hab : Ab σ L) (hk : k ≤ 3) (hm : mk < 3) (h : σ.M k q mk = false) : ∀ y ∈ L, y.k ≤ k → y.p / 8 ^ k = q → ¬ OkX page (mk : Nat) y := fun y hy h1 h2 ho => by
  have : σ.M k q mk = true := (hab.m k q mk hk hm).2 ⟨y, hy, h1, h2, by rcases ho.2 with h | h; omega; simpa using h⟩
  rw [h] at this
  cases this
theorem at_at (g k : Nat) (G : Int) (hg : g < 4096) (hk : k ≤ 2) (hG : G = (g : Nat)) (w : World) : Calls Try.prog 31 #[.int .i64 G, .int .i64 (k : Nat)] w fun e w' => e = .returned (blk k (g / 8 ^ k)) ∧ Below w.heap.size w w' := by
  subst hG
  exact at_any g k hg hk w
abbrev nxV (A3 A4 A5 : Nat) : Value := .func (Fn.func 30) #[] #[.pointer (some ⟨A3, 0, none⟩), .pointer (some ⟨A4, 0, none⟩), .pointer (some ⟨A5, 0, none⟩)]
theorem nx_nil (f k : Int) (A3 A4 A5 : Nat) (w : World) : Calls Try.prog 30 #[.pointer none, .int .i64 f, .int .i64 k, .pointer (some ⟨A3, 0, none⟩), .pointer (some ⟨A4, 0, none⟩), .pointer (some ⟨A5, 0, none⟩)] w fun e w' => e = .returned (.tuple #[.agg #[.int .i64 0, .int .i64 0], .bool false]) ∧ Below w.heap.size w w' := by
  have hz := heap_alloc_new w (.cells #[.int .i64 0, .int .i64 0] 29)
  have x0 : (w.alloc (.cells #[.int .i64 0, .int .i64 0] 29)).cell? ⟨w.heap.size, 0, none⟩ = some (.int .i64 0) := cell_of_row _ w.heap.size 0 _ 29 _ hz
  have x1 : (w.alloc (.cells #[.int .i64 0, .int .i64 0] 29)).cell? ⟨w.heap.size, 1, none⟩ = some (.int .i64 0) := cell_of_row _ w.heap.size 1 _ 29 _ hz
  have xf := fun j => frozen_of_row _ w.heap.size j _ 29 hz
  have HB := Lib.hid (show Below w.heap.size w (w.alloc (.cells #[.int .i64 0, .int .i64 0] 29)) from (Below.refl _ _).alloc (Nat.le_refl _) _)
  clear hz
  go_enter Try.func30, Try.ntmps30
  go_upto_region 1 with fail
  generalize w.alloc (.cells #[.int .i64 0, .int .i64 0] 29) = w1 at *
  go_wp2_with fail
  refine bodyPost_ret (v := .tuple #[.agg #[.int .i64 0, .int .i64 0], .bool false]) (by simp [results, Try.results30, go_sem, x0, x1]) rfl ⟨rfl, ?_⟩
  first | exact HB.out | (refine Below.setCell ?_ (by simp) _; refine Below.setCell ?_ (by simp) _; exact HB.out)
/-- The node's contract. -/
def NxC (σ : St) (L : List X) (t : Nat) (many nodes : Int) (F : List Nat) (page mark : Int) (A3 A4 A5 k : Nat) : Prop :=
  ∀ (P b : Nat) (w : World), k ≤ 3 → (P + 1) * 8 ^ (k + 1) ≤ 4096 → σ.N k P = some b → Hp w t σ many nodes F → w.cell? ⟨A3, 0, none⟩ = some (.int .i64 page) → w.cell? ⟨A4, 0, none⟩ = some (.int .i64 mark) → w.cell? ⟨A5, 0, none⟩ = some (nxV A3 A4 A5) →
    Calls Try.prog 30 #[.pointer (some ⟨b, 0, none⟩), .int .i64 ((P * 8 ^ (k + 1) : Nat) : Int), .int .i64 (k : Nat), .pointer (some ⟨A3, 0, none⟩), .pointer (some ⟨A4, 0, none⟩), .pointer (some ⟨A5, 0, none⟩)] w fun e w' => Below w.heap.size w w' ∧ Nx L page mark k P e
theorem cell_alloc {w : World} {a : Addr} {u : Value} (h : w.cell? a = some u) (o : Obj) : (w.alloc o).cell? a = some u := cell_keep ((Below.refl _ _).alloc (Nat.le_refl _) o) h
theorem cell_far {w : World} {a : Addr} {u x y : Value} {B : Nat} (h : w.cell? a = some u) (hn : a.block ≠ B) : ((w.setCell ⟨B, 0, none⟩ x).setCell ⟨B, 1, none⟩ y).cell? a = some u :=
  (World.cell?_of_block ((Below.heap_setCell _ ⟨B, 1, none⟩ _ a.block hn).trans (Below.heap_setCell _ ⟨B, 0, none⟩ _ a.block hn))).trans h
theorem mk_alloc {w2 w5 : World} {r0 r1 : Int} {Q : Prop} (h : Below w2.heap.size w2 w2.drew) (hb : Below w2.drew.heap.size w2.drew w5) (hq : Q) :
    (w5.alloc (.cells #[.int .i64 r0, .int .i64 r1] 29)).cell? ⟨w5.heap.size, 0, none⟩ = some (.int .i64 r0) ∧ (w5.alloc (.cells #[.int .i64 r0, .int .i64 r1] 29)).cell? ⟨w5.heap.size, 1, none⟩ = some (.int .i64 r1) ∧ Below w2.heap.size w2 (w5.alloc (.cells #[.int .i64 r0, .int .i64 r1] 29)) ∧ Q :=
  ⟨cell_of_row _ _ 0 _ 29 _ (heap_alloc_new w5 _), cell_of_row _ _ 1 _ 29 _ (heap_alloc_new w5 _), (h.trans (hb.mono h.size)).trans ((Below.refl _ _).alloc (Nat.le_trans h.size hb.size) _), hq⟩
theorem mk_set {w2 w5 W : World} {B : Nat} {r0 r1 : Int} {u v : Value} {Q : Prop} (h : Below w2.heap.size w2 W) (hb : Below W.heap.size W w5) (z0 : w5.cell? ⟨B, 0, none⟩ = some u) (z1 : w5.cell? ⟨B, 1, none⟩ = some v) (hB : w2.heap.size ≤ B) (hq : Q) :
    ((w5.setCell ⟨B, 0, none⟩ (.int .i64 r0)).setCell ⟨B, 1, none⟩ (.int .i64 r1)).cell? ⟨B, 0, none⟩ = some (.int .i64 r0) ∧ ((w5.setCell ⟨B, 0, none⟩ (.int .i64 r0)).setCell ⟨B, 1, none⟩ (.int .i64 r1)).cell? ⟨B, 1, none⟩ = some (.int .i64 r1) ∧ Below w2.heap.size w2 ((w5.setCell ⟨B, 0, none⟩ (.int .i64 r0)).setCell ⟨B, 1, none⟩ (.int .i64 r1)) ∧ Q := by
  refine ⟨by simp [go_sem, z0, z1], by simp [go_sem, z0, z1], ?_, hq⟩
  refine Below.setCell ?_ hB _
  refine Below.setCell ?_ hB _
  exact h.trans (hb.mono h.size)
/-- What the search below a slot tells. -/
def NxR (L : List X) (page mark : Int) (k q : Nat) (r0 r1 : Int) (ok : Bool) : Prop :=
  (ok = true ∧ ∃ x ∈ L, x.k ≤ k ∧ x.p / 8 ^ k = q ∧ OkX page mark x ∧ (∀ y ∈ L, y.k ≤ k → y.p / 8 ^ k = q → OkX page mark y → x.p ≤ y.p) ∧ r0 = (x.p : Nat) ∧ r1 = 3 * ((x.k : Nat) : Int)) ∨ (ok = false ∧ ∀ y ∈ L, y.k ≤ k → y.p / 8 ^ k = q → ¬ OkX page mark y)
theorem nx_child {σ : St} {L : List X} {t : Nat} {many nodes : Int} {F : List Nat} {page mark : Int} {A3 A4 A5 k q : Nat} {w2 : World} {ch : Option Nat} {G : Int} (ih : ∀ j, j + 1 = k → NxC σ L t many nodes F page mark A3 A4 A5 j) (hab : Ab σ L) (hgd : Good L) (hk : k ≤ 3)
    (hE : σ.E k q = none) (hch : σ.bel k q = ch) (hG : G = ((q * 8 ^ k : Nat) : Int)) (hq : (q + 1) * 8 ^ k ≤ 4096) (h : Hp w2 t σ many nodes F) (h3 : w2.cell? ⟨A3, 0, none⟩ = some (.int .i64 page)) (h4 : w2.cell? ⟨A4, 0, none⟩ = some (.int .i64 mark)) (h5 : w2.cell? ⟨A5, 0, none⟩ = some (nxV A3 A4 A5)) :
    ∀ W, Below w2.heap.size w2 W → Calls Try.prog 30 #[pt ch, .int .i64 G, .int .i64 (((k : Nat) : Int) - 1), .pointer (some ⟨A3, 0, none⟩), .pointer (some ⟨A4, 0, none⟩), .pointer (some ⟨A5, 0, none⟩)] W fun e w' => Below W.heap.size W w' ∧ ∃ r0 r1 ok, e = .returned (.tuple #[.agg #[.int .i64 r0, .int .i64 r1], .bool ok]) ∧ NxR L page mark k q r0 r1 ok := by
  intro W hW
  cases ch with
  | none =>
    exact (nx_nil _ _ _ _ _ W).mono fun e w' ⟨he, hb⟩ => ⟨hb, 0, 0, false, he, .inr ⟨rfl, fun y hy h1 h2 => absurd h2 (hab.slot_none hgd hk hE hch y hy h1)⟩⟩
  | some c =>
    have hk0 : k ≠ 0 := by rintro rfl; unfold St.bel at hch; rw [if_pos rfl] at hch; cases hch
    obtain ⟨j, rfl⟩ : ∃ j, k = j + 1 := ⟨k - 1, by omega⟩
    have hN : σ.N j q = some c := by unfold St.bel at hch; rw [if_neg hk0, Nat.add_sub_cancel] at hch; exact hch
    have hslot : ∀ y ∈ L, y.k ≤ j + 1 → y.p / 8 ^ (j + 1) = q → y.k ≤ j := fun y hy h1 h2 => by
      by_cases e : y.k = j + 1
      · exfalso
        obtain ⟨x, hx⟩ := (hab.e (j + 1) q).2 ⟨y, hy, e, by have := (hgd.1 y hy).aligned; rw [e, h2] at this; exact this⟩
        rw [hE] at hx
        cases hx
      · omega
    have hC := ih j rfl q c W (by omega) hq hN (h.below hW) (cell_keep hW h3) (cell_keep hW h4) (cell_keep hW h5)
    rw [hG, show (((j + 1 : Nat) : Int) - 1) = ((j : Nat) : Int) from by omega]
    refine hC.mono fun e w' ⟨hb, hn⟩ => ⟨hb, ?_⟩
    rcases hn with ⟨x, hx, h1, h2, h3, rfl⟩ | ⟨h1, rfl⟩
    · exact ⟨_, _, true, rfl, .inl ⟨rfl, x, hx, by have := h1.1; omega, h1.2, h2, fun y hy g1 g2 g3 => h3 y hy ⟨hslot y hy g1 g2, g2⟩ g3, rfl, rfl⟩⟩
    · exact ⟨_, _, false, rfl, .inr ⟨rfl, fun y hy g1 g2 => h1 y hy ⟨hslot y hy g1 g2, g2⟩⟩⟩
set_option maxRecDepth 100000 in
set_option maxHeartbeats 16000000 in
theorem nx_step (page mark : Int) (A3 A4 A5 t : Nat) (σ : St) (L : List X) (many nodes : Int) (F : List Nat) (hab : Ab σ L) (hgd : Good L) (hmk : -1 ≤ mark ∧ mark < 3) (k : Nat)
    (ih : ∀ j, j + 1 = k → NxC σ L t many nodes F page mark A3 A4 A5 j) : NxC σ L t many nodes F page mark A3 A4 A5 k := by
  intro P b w hk hP hb h hc3 hc4 hc5
  have HIH := Lib.hid ih
  have HAB := Lib.hid (And.intro hab hgd)
  clear ih hab hgd
  have hz := heap_alloc_new w (.cells #[.int .i64 0, .int .i64 0] 29)
  have hA : Below w.heap.size w (w.alloc (.cells #[.int .i64 0, .int .i64 0] 29)) := (Below.refl _ _).alloc (Nat.le_refl _) _
  have x0 : (w.alloc (.cells #[.int .i64 0, .int .i64 0] 29)).cell? ⟨w.heap.size, 0, none⟩ = some (.int .i64 0) := cell_of_row _ w.heap.size 0 _ 29 _ hz
  have x1 : (w.alloc (.cells #[.int .i64 0, .int .i64 0] 29)).cell? ⟨w.heap.size, 1, none⟩ = some (.int .i64 0) := cell_of_row _ w.heap.size 1 _ 29 _ hz
  have xf : ∀ j, (w.alloc (.cells #[.int .i64 0, .int .i64 0] 29)).frozen? ⟨w.heap.size, j, none⟩ = false := fun j => frozen_of_row _ w.heap.size j _ 29 hz
  have d3 := cell_keep hA hc3
  have d4 := cell_keep hA hc4
  have d5 := cell_keep hA hc5
  have H1 := Lib.hid (And.intro (h.below hA) (And.intro hA (And.intro hb (show w.heap.size < (w.alloc (.cells #[.int .i64 0, .int .i64 0] 29)).heap.size from lt_of_block hz))))
  clear hz hA hc3 hc4 hc5 h hb
  have hsz : wrap64 (2 ^ (3 * k)) = ((8 ^ k : Nat) : Int) := by rcases k4 hk with rfl | rfl | rfl | rfl <;> (rw [IntWalk.wrap64_in] <;> decide)
  have hsz1 : 1 ≤ 8 ^ k := Nat.pos_of_ne_zero (by simp)
  have hsz2 : P * 8 ^ (k + 1) = 8 * P * 8 ^ k := by rw [Nat.pow_succ, Nat.mul_comm (8 ^ k) 8, ← Nat.mul_assoc, Nat.mul_comm P 8]
  have hsz3 : (P + 1) * 8 ^ (k + 1) = 8 * P * 8 ^ k + 8 * 8 ^ k := by rw [Nat.add_mul, hsz2, Nat.one_mul, Nat.pow_succ, Nat.mul_comm (8 ^ k) 8]
  rw [hsz3] at hP
  rw [hsz2]
  obtain ⟨sz, hszE⟩ : ∃ sz, 8 ^ k = sz := ⟨_, rfl⟩
  obtain ⟨fs, hfs⟩ : ∃ fs, 8 * P * 8 ^ k = fs := ⟨_, rfl⟩
  have HSZ := Lib.hid (And.intro hszE hfs)
  rw [hfs] at hP ⊢
  rw [hszE] at hsz hsz1 hP
  clear hsz2 hsz3 hszE hfs
  go_enter Try.func30, Try.ntmps30
  go_upto_region 1 with fail
  generalize w.alloc (.cells #[.int .i64 0, .int .i64 0] 29) = w1 at *
  generalize hC : w.heap.size = C at *
  have HC := Lib.hid hC
  clear hC
  have HX := Lib.hid (And.intro x0 (And.intro x1 (And.intro xf (And.intro d3 (And.intro d4 d5)))))
  clear x0 x1 xf d3 d4 d5
  go_wp2_with fail
  rw [hsz]
  clear hsz
  go_loopw [22] (fun st wr => ∃ s : Nat, s ≤ 8 ∧ st = .int .i64 (s : Nat) ∧ RowKit.Hid (Below w1.heap.size w1 wr ∧ Upto L page mark k P s)) (fun st _ => 8 - (intOf st).toNat)
  case atStart => exact ⟨0, by omega, rfl, Lib.hid ⟨Below.refl _ _, fun y hy h1 h2 h3 => by rw [div_step] at h2; omega⟩⟩
  case round =>
    obtain ⟨s, hs, rfl, HL⟩ := hrel
    have x0 := cell_keep HL.out.1 HX.out.1
    have x1 := cell_keep HL.out.1 HX.out.2.1
    have xf : ∀ j, wr.frozen? ⟨C, j, none⟩ = false := fun j => (HL.out.1.frozen H1.out.2.2.2).trans (HX.out.2.2.1 j)
    have d3 := cell_keep HL.out.1 HX.out.2.2.2.1
    have d4 := cell_keep HL.out.1 HX.out.2.2.2.2.1
    have d5 := cell_keep HL.out.1 HX.out.2.2.2.2.2
    have HP := Lib.hid (H1.out.1.below HL.out.1)
    by_cases hs8 : s < 8
    · have hsI : ((s : Nat) : Int) < 8 := by omega
      obtain ⟨y, hy⟩ : ∃ y, s * sz = y := ⟨_, rfl⟩
      have hy7 : y ≤ 7 * sz := by rw [← hy]; exact Nat.mul_le_mul_right _ (by omega)
      have hyI : ((s : Nat) : Int) * ((sz : Nat) : Int) = ((y : Nat) : Int) := by rw [← hy]; simp
      have q1 : wrap64 (((s : Nat) : Int) * ((sz : Nat) : Int)) = ((y : Nat) : Int) := by rw [hyI]; exact IntWalk.wrap64_in _ (by omega)
      have HFR := Lib.hid (show fs + y = (8 * P + s) * 8 ^ k from by rw [Nat.add_mul, HSZ.out.2, HSZ.out.1, hy])
      have HSK := Lib.hid (fun (hn : ∀ y ∈ L, y.k ≤ k → y.p / 8 ^ k = 8 * P + s → ¬ OkX page mark y) => HL.out.2.more hn)
      clear hy hyI
      by_cases c1 : ((fs : Nat) : Int) + ((y : Nat) : Int) + ((sz : Nat) : Int) ≤ page
      · have HN := Lib.hid (HSK.out (skip_page HAB.out.2 hk (by rw [← HFR.out, HSZ.out.1]; omega)))
        go_upto_region 8 with fail
        go_quiet (fail)
        go_wp2_with fail
        exact ⟨⟨s + 1, by omega, by simp, Lib.hid ⟨below_drewN HL.out.1 nq, HN.out⟩⟩, by simp [intOf]; omega⟩
      · by_cases c2 : 0 ≤ mark
        · obtain ⟨mk, rfl⟩ : ∃ mk : Nat, mark = (mk : Nat) := ⟨mark.toNat, by omega⟩
          have hmk3 : mk < 3 := by omega
          have hmkI : ((mk : Nat) : Int) < 3 := by omega
          have hmc := HP.out.mcell H1.out.2.2.1 hmk3
          have hbit : bits .and .u8 ((byt fun s => σ.M k (8 * P + s) mk).fdiv (2 ^ s)) 1 = b1 (σ.M k (8 * P + s) mk) := byt_get (fun s => σ.M k (8 * P + s) mk) hs8
          have hrng := byt_range (fun s => σ.M k (8 * P + s) mk)
          generalize byt (fun s => σ.M k (8 * P + s) mk) = yb at *
          rw [Int.fdiv_eq_ediv_of_nonneg _ (by exact_mod_cast Nat.zero_le _)] at hbit
          cases hmm : σ.M k (8 * P + s) mk with
          | false =>
            rw [hmm] at hbit
            have hbit' : bits .and .u8 (yb / 2 ^ s) 1 = 0 := hbit
            have HN := Lib.hid (HSK.out (skip_mark HAB.out.1 hk hmk3 hmm))
            clear hbit hmm
            go_upto_region 8 with fail
            go_quiet (fail)
            go_wp2_with fail
            exact ⟨⟨s + 1, by omega, by simp, Lib.hid ⟨below_drewN HL.out.1 nq, HN.out⟩⟩, by simp [intOf]; omega⟩
          | true =>
            rw [hmm] at hbit
            have hbit' : bits .and .u8 (yb / 2 ^ s) 1 = 1 := hbit
            clear hbit
            go_upto_region 8 with fail
            go_quiet (fail)
            go_upto_region 9 with fail
            have HT := Lib.hid (show ((mk : Nat) : Int) < 0 ∨ σ.M k (8 * P + s) (((mk : Nat) : Int)).toNat = true from .inr (by simpa using hmm))
            clear hbit' hmm hmc hrng
            have HW := Lib.hid (below_drewN HL.out.1 nq)
            have HP2 := Lib.hid (HP.out.drewN nq)
            clear x0 x1 xf d3 d4 d5 HP
            generalize wr.drewN nq = w2 at *
            have x0 := cell_keep HW.out HX.out.1
            have x1 := cell_keep HW.out HX.out.2.1
            have xf0 : w2.frozen? ⟨C, 0, none⟩ = false := (HW.out.frozen H1.out.2.2.2).trans (HX.out.2.2.1 0)
            have xf1 : w2.frozen? ⟨C, 1, none⟩ = false := (HW.out.frozen H1.out.2.2.2).trans (HX.out.2.2.1 1)
            have hec := HP2.out.ecell H1.out.2.2.1 hs8
            have HBW := Lib.hid (H1.out.2.1.trans (HW.out.mono (by rw [← HC.out]; exact H1.out.2.1.size)))
            have HCW := Lib.hid (show C < w2.heap.size from by have := H1.out.2.2.2; have := HW.out.size; omega)
            cases hE : σ.E k (8 * P + s) with
            | some e =>
              rw [hE] at hec
              have hec' : w2.cell? ⟨b, 8 + s, none⟩ = some (.pointer (some ⟨e, 0, none⟩)) := hec
              have hk2 := HAB.out.1.ent_le HAB.out.2 hE
              obtain ⟨x, hx, hxk, hxp, huni⟩ := HAB.out.1.slot_ent HAB.out.2 hk hE
              have HE := Lib.hid (And.intro hx (And.intro hxk (And.intro hxp huni)))
              have HAT := Lib.hid (fun W => at_at (fs + y) k (((fs : Nat) : Int) + ((y : Nat) : Int)) (by omega) hk2 (by simp) W)
              obtain ⟨d, hd⟩ : ∃ d : Int, blk k ((fs + y) / 8 ^ k) = .agg #[.int .i64 d, .int .i64 (3 * ((k : Nat) : Int))] := ⟨_, rfl⟩
              have HDD := Lib.hid (show d = ((x.p : Nat) : Int) from by
                have e1 : (fs + y) / 8 ^ k = 8 * P + s := by rw [HFR.out, Nat.mul_div_cancel _ (Nat.pos_of_ne_zero (by simp))]
                rw [e1] at hd
                unfold blk at hd
                injection hd with hd
                have := congrArg (fun a : Array Value => a[0]?) hd
                simp at this
                rw [hxp, ← this]; simp)
              rw [hd] at HAT
              clear hec hE hx hxk hxp huni hd
              go_wp2_with fail
              refine (HAT.out _).mono ?_
              rintro e' w5 ⟨rfl, hb5⟩
              have HB5 := Lib.hid (HBW.out.trans (hb5.mono (by rw [← HC.out]; exact HBW.out.size)))
              have y0 := cell_keep hb5 x0
              have y1 := cell_keep hb5 x1
              have y2 : w5.frozen? ⟨C, 0, none⟩ = false := (hb5.frozen HCW.out).trans xf0
              have y3 : w5.frozen? ⟨C, 1, none⟩ = false := (hb5.frozen HCW.out).trans xf1
              clear x0 x1 xf0 xf1 hec' hb5
              go_wp2_with fail
              refine bodyPost_ret (v := .tuple #[.agg #[.int .i64 d, .int .i64 (3 * ((k : Nat) : Int))], .bool true]) (by simp [results, Try.results30, go_sem, y0, y1, y2, y3]) rfl ⟨?_, HL.out.2.found HAB.out.2 hk hs8 HE.out.1 (by rw [HE.out.2.1]; exact Nat.le_refl _) (by rw [HE.out.2.2.1, Nat.mul_div_cancel _ (Nat.pos_of_ne_zero (by simp))]) ⟨?_, ?_⟩ (fun z hz h1 h2 _ => by rw [HE.out.2.2.2 z hz h1 h2]; exact Nat.le_refl _) (by rw [HDD.out, HE.out.2.1])⟩
              · refine Below.setCell ?_ (by simp [HC.out]) _
                refine Below.setCell ?_ (by simp [HC.out]) _
                rw [HC.out]
                exact HB5.out
              · rw [HE.out.2.2.1, HE.out.2.1, ← HFR.out, HSZ.out.1]
                omega
              · rcases HT.out with h | h
                · exact .inl h
                · right
                  obtain ⟨z, hz, h1, h2, h3⟩ := (HAB.out.1.m k (8 * P + s) _ hk (by omega)).1 h
                  rw [← HE.out.2.2.2 z hz h1 h2]
                  exact h3
            | none =>
              rw [hE] at hec
              have hec' : w2.cell? ⟨b, 8 + s, none⟩ = some (.pointer none) := hec
              have hbc := HP2.out.bcell H1.out.2.2.1 hs8
              obtain ⟨ch, hch⟩ : ∃ ch, σ.bel k (8 * P + s) = ch := ⟨_, rfl⟩
              have HCL := Lib.hid (nx_child HIH.out HAB.out.1 HAB.out.2 hk hE hch (G := ((fs : Nat) : Int) + ((y : Nat) : Int)) (by rw [← HFR.out]; simp) (by rw [Nat.add_mul, ← HFR.out, HSZ.out.1, Nat.one_mul]; omega) HP2.out (cell_keep HW.out HX.out.2.2.2.1) (cell_keep HW.out HX.out.2.2.2.2.1) (cell_keep HW.out HX.out.2.2.2.2.2))
              rw [hch] at hbc
              have d5 := cell_keep HW.out HX.out.2.2.2.2.2
              have q3 : IntKind.i64.wrap (((k : Nat) : Int) - 1) = ((k : Nat) : Int) - 1 := by rw [IntKind.wrap_i64]; omega
              have hD : Below w2.heap.size w2 w2.drew := (Below.refl _ _).drew
              have HD := Lib.hid (And.intro hD (hD.alloc (Nat.le_refl _) (.cells #[.int .i64 0, .int .i64 0] 29)))
              have hzn := heap_alloc_new w2.drew (.cells #[.int .i64 0, .int .i64 0] 29)
              have HZ := Lib.hid (show (w2.drew.alloc (.cells #[.int .i64 0, .int .i64 0] 29)).cell? ⟨w2.heap.size, 0, none⟩ = some (.int .i64 0) ∧ (w2.drew.alloc (.cells #[.int .i64 0, .int .i64 0] 29)).cell? ⟨w2.heap.size, 1, none⟩ = some (.int .i64 0) ∧ (w2.drew.alloc (.cells #[.int .i64 0, .int .i64 0] 29)).frozen? ⟨w2.heap.size, 0, none⟩ = false ∧ (w2.drew.alloc (.cells #[.int .i64 0, .int .i64 0] 29)).frozen? ⟨w2.heap.size, 1, none⟩ = false ∧ w2.heap.size < (w2.drew.alloc (.cells #[.int .i64 0, .int .i64 0] 29)).heap.size from ⟨cell_of_row _ _ 0 _ 29 _ hzn, cell_of_row _ _ 1 _ 29 _ hzn, frozen_of_row _ _ 0 _ 29 hzn, frozen_of_row _ _ 1 _ 29 hzn, lt_of_block hzn⟩)
              clear hec hE hch hD hzn
              generalize pt ch = cv at *
              have hA5 : A5 < w2.heap.size := World.block_lt_of_cell? w2 _ d5
              have hbl : b < w2.heap.size := World.block_lt_of_cell? w2 _ hbc
              have n1 : A5 ≠ w2.heap.size := by omega
              have n2 : b ≠ w2.heap.size := by omega
              have HLT := Lib.hid (And.intro hA5 hbl)
              go_upto_region 11 with fail
              clear hec' hA5 hbl
              go_cut [14, 15, 22] from 23 to 77 (fun s14 s15 s22 wx => s22 = .int .i64 ((s : Nat) : Int) ∧ ∃ B : Nat, s14 = .pointer (some ⟨B, 0, none⟩) ∧ ∃ ok : Bool, s15 = .bool ok ∧ ∃ r0 r1, RowKit.Hid (wx.cell? ⟨B, 0, none⟩ = some (.int .i64 r0) ∧ wx.cell? ⟨B, 1, none⟩ = some (.int .i64 r1) ∧ Below w2.heap.size w2 wx ∧ NxR L page ((mk : Nat) : Int) k (8 * P + s) r0 r1 ok))
              case first =>
                go_region_held3 (fun w' => w'.cell? ⟨A5, 0, none⟩ = some (nxV A3 A4 A5) ∧ w'.cell? ⟨b, s, none⟩ = some cv) (first | exact ⟨ha5, hbs⟩ | exact ⟨cell_alloc ha5 _, cell_alloc hbs _⟩ | exact ⟨cell_far ha5 n1, cell_far hbs n2⟩ | go_keep) (first
                  | (go_at_call 30; refine Calls.mono (HCL.out _ HD.out.1) ?_; rintro e w5 ⟨hb5, r0, r1, ok, rfl, hr⟩; have ha5 := cell_keep hb5 (cell_keep HD.out.1 d5); have hbs := cell_keep hb5 (cell_keep HD.out.1 hbc); have n3 : A5 ≠ w5.heap.size := (by have h1 := World.block_lt_of_cell? w5 _ ha5; simp at h1; omega); have n4 : b ≠ w5.heap.size := (by have h1 := World.block_lt_of_cell? w5 _ hbs; simp at h1; omega))
                  | (go_at_call 30; refine Calls.mono (HCL.out _ HD.out.2) ?_; rintro e w5 ⟨hb5, r0, r1, ok, rfl, hr⟩; have ha5 := cell_keep hb5 (cell_keep HD.out.2 d5); have hbs := cell_keep hb5 (cell_keep HD.out.2 hbc); have n3 : A5 ≠ w5.heap.size := (by have h1 := World.block_lt_of_cell? w5 _ ha5; simp at h1; omega); have n4 : b ≠ w5.heap.size := (by have h1 := World.block_lt_of_cell? w5 _ hbs; simp at h1; omega); have z0 := cell_keep hb5 HZ.out.1; have z1 := cell_keep hb5 HZ.out.2.1; have zf0 := (hb5.frozen HZ.out.2.2.2.2).trans HZ.out.2.2.1; have zf1 := (hb5.frozen HZ.out.2.2.2.2).trans HZ.out.2.2.2.1))
                all_goals (
                  have HR := Lib.hid hr
                  clear hr
                  go_wp2_with fail
                  go_meet
                  case rel =>
                    first
                      | exact ⟨rfl, _, rfl, ok, rfl, r0, r1, Lib.hid (mk_alloc HD.out.1 hb5 HR.out)⟩
                      | exact ⟨rfl, _, rfl, ok, rfl, r0, r1, Lib.hid (mk_set HD.out.2 hb5 z0 z1 (Nat.le_refl _) HR.out)⟩)
              case rest =>
                obtain ⟨rfl, B, rfl, ok, rfl, r0, r1, HR⟩ := hcut
                have v0 := HR.out.1
                have v1 := HR.out.2.1
                have HB6 := Lib.hid (HW.out.trans (HR.out.2.2.1.mono HW.out.size))
                have hbc2 := HR.out.2.2.1
                have x0 := cell_keep hbc2 x0
                have x1 := cell_keep hbc2 x1
                have xf0 := (hbc2.frozen HCW.out).trans xf0
                have xf1 := (hbc2.frozen HCW.out).trans xf1
                rcases HR.out.2.2.2 with ⟨rfl, hr⟩ | ⟨rfl, hr⟩
                · have HRR := Lib.hid hr
                  have HB7 := Lib.hid (HBW.out.trans (hbc2.mono (by rw [← HC.out]; exact HBW.out.size)))
                  clear hr hbc2
                  go_wp2_with fail
                  obtain ⟨x, hx, hxk, hxq, hok, hmin, rfl, rfl⟩ := HRR.out
                  refine bodyPost_ret (v := .tuple #[.agg #[.int .i64 ((x.p : Nat) : Int), .int .i64 (3 * ((x.k : Nat) : Int))], .bool true]) (by simp [results, Try.results30, go_sem, x0, x1, xf0, xf1]) rfl ⟨?_, HL.out.2.found HAB.out.2 hk hs8 hx hxk hxq hok hmin rfl⟩
                  refine Below.setCell ?_ (by simp [HC.out]) _
                  refine Below.setCell ?_ (by simp [HC.out]) _
                  rw [HC.out]
                  exact HB7.out
                · have HN := Lib.hid (HSK.out hr)
                  clear hr hbc2
                  go_wp2_with fail
                  go_roundw
                  case rel => exact ⟨s + 1, by omega, by simp, Lib.hid ⟨HB6.out, HN.out⟩⟩
                  case measure => simp [intOf]; omega
        · go_upto_region 8 with fail
          go_quiet (fail)
          go_upto_region 9 with fail
          have HT := Lib.hid (show mark < 0 ∨ σ.M k (8 * P + s) mark.toNat = true from .inl (by omega))
          have HW := Lib.hid (below_drewN HL.out.1 nq)
          have HP2 := Lib.hid (HP.out.drewN nq)
          clear x0 x1 xf d3 d4 d5 HP
          generalize wr.drewN nq = w2 at *
          have x0 := cell_keep HW.out HX.out.1
          have x1 := cell_keep HW.out HX.out.2.1
          have xf0 : w2.frozen? ⟨C, 0, none⟩ = false := (HW.out.frozen H1.out.2.2.2).trans (HX.out.2.2.1 0)
          have xf1 : w2.frozen? ⟨C, 1, none⟩ = false := (HW.out.frozen H1.out.2.2.2).trans (HX.out.2.2.1 1)
          have hec := HP2.out.ecell H1.out.2.2.1 hs8
          have HBW := Lib.hid (H1.out.2.1.trans (HW.out.mono (by rw [← HC.out]; exact H1.out.2.1.size)))
          have HCW := Lib.hid (show C < w2.heap.size from by have := H1.out.2.2.2; have := HW.out.size; omega)
          cases hE : σ.E k (8 * P + s) with
          | some e =>
            rw [hE] at hec
            have hec' : w2.cell? ⟨b, 8 + s, none⟩ = some (.pointer (some ⟨e, 0, none⟩)) := hec
            have hk2 := HAB.out.1.ent_le HAB.out.2 hE
            obtain ⟨x, hx, hxk, hxp, huni⟩ := HAB.out.1.slot_ent HAB.out.2 hk hE
            have HE := Lib.hid (And.intro hx (And.intro hxk (And.intro hxp huni)))
            have HAT := Lib.hid (fun W => at_at (fs + y) k (((fs : Nat) : Int) + ((y : Nat) : Int)) (by omega) hk2 (by simp) W)
            obtain ⟨d, hd⟩ : ∃ d : Int, blk k ((fs + y) / 8 ^ k) = .agg #[.int .i64 d, .int .i64 (3 * ((k : Nat) : Int))] := ⟨_, rfl⟩
            have HDD := Lib.hid (show d = ((x.p : Nat) : Int) from by
              have e1 : (fs + y) / 8 ^ k = 8 * P + s := by rw [HFR.out, Nat.mul_div_cancel _ (Nat.pos_of_ne_zero (by simp))]
              rw [e1] at hd
              unfold blk at hd
              injection hd with hd
              have := congrArg (fun a : Array Value => a[0]?) hd
              simp at this
              rw [hxp, ← this]; simp)
            rw [hd] at HAT
            clear hec hE hx hxk hxp huni hd
            go_wp2_with fail
            refine (HAT.out _).mono ?_
            rintro e' w5 ⟨rfl, hb5⟩
            have HB5 := Lib.hid (HBW.out.trans (hb5.mono (by rw [← HC.out]; exact HBW.out.size)))
            have y0 := cell_keep hb5 x0
            have y1 := cell_keep hb5 x1
            have y2 : w5.frozen? ⟨C, 0, none⟩ = false := (hb5.frozen HCW.out).trans xf0
            have y3 : w5.frozen? ⟨C, 1, none⟩ = false := (hb5.frozen HCW.out).trans xf1
            clear x0 x1 xf0 xf1 hec' hb5
            go_wp2_with fail
            refine bodyPost_ret (v := .tuple #[.agg #[.int .i64 d, .int .i64 (3 * ((k : Nat) : Int))], .bool true]) (by simp [results, Try.results30, go_sem, y0, y1, y2, y3]) rfl ⟨?_, HL.out.2.found HAB.out.2 hk hs8 HE.out.1 (by rw [HE.out.2.1]; exact Nat.le_refl _) (by rw [HE.out.2.2.1, Nat.mul_div_cancel _ (Nat.pos_of_ne_zero (by simp))]) ⟨?_, ?_⟩ (fun z hz h1 h2 _ => by rw [HE.out.2.2.2 z hz h1 h2]; exact Nat.le_refl _) (by rw [HDD.out, HE.out.2.1])⟩
            · refine Below.setCell ?_ (by simp [HC.out]) _
              refine Below.setCell ?_ (by simp [HC.out]) _
              rw [HC.out]
              exact HB5.out
            · rw [HE.out.2.2.1, HE.out.2.1, ← HFR.out, HSZ.out.1]
              omega
            · rcases HT.out with h | h
              · exact .inl h
              · right
                obtain ⟨z, hz, h1, h2, h3⟩ := (HAB.out.1.m k (8 * P + s) _ hk (by omega)).1 h
                rw [← HE.out.2.2.2 z hz h1 h2]
                exact h3
          | none =>
            rw [hE] at hec
            have hec' : w2.cell? ⟨b, 8 + s, none⟩ = some (.pointer none) := hec
            have hbc := HP2.out.bcell H1.out.2.2.1 hs8
            obtain ⟨ch, hch⟩ : ∃ ch, σ.bel k (8 * P + s) = ch := ⟨_, rfl⟩
            have HCL := Lib.hid (nx_child HIH.out HAB.out.1 HAB.out.2 hk hE hch (G := ((fs : Nat) : Int) + ((y : Nat) : Int)) (by rw [← HFR.out]; simp) (by rw [Nat.add_mul, ← HFR.out, HSZ.out.1, Nat.one_mul]; omega) HP2.out (cell_keep HW.out HX.out.2.2.2.1) (cell_keep HW.out HX.out.2.2.2.2.1) (cell_keep HW.out HX.out.2.2.2.2.2))
            rw [hch] at hbc
            have d5 := cell_keep HW.out HX.out.2.2.2.2.2
            have q3 : IntKind.i64.wrap (((k : Nat) : Int) - 1) = ((k : Nat) : Int) - 1 := by rw [IntKind.wrap_i64]; omega
            have hD : Below w2.heap.size w2 w2.drew := (Below.refl _ _).drew
            have HD := Lib.hid (And.intro hD (hD.alloc (Nat.le_refl _) (.cells #[.int .i64 0, .int .i64 0] 29)))
            have hzn := heap_alloc_new w2.drew (.cells #[.int .i64 0, .int .i64 0] 29)
            have HZ := Lib.hid (show (w2.drew.alloc (.cells #[.int .i64 0, .int .i64 0] 29)).cell? ⟨w2.heap.size, 0, none⟩ = some (.int .i64 0) ∧ (w2.drew.alloc (.cells #[.int .i64 0, .int .i64 0] 29)).cell? ⟨w2.heap.size, 1, none⟩ = some (.int .i64 0) ∧ (w2.drew.alloc (.cells #[.int .i64 0, .int .i64 0] 29)).frozen? ⟨w2.heap.size, 0, none⟩ = false ∧ (w2.drew.alloc (.cells #[.int .i64 0, .int .i64 0] 29)).frozen? ⟨w2.heap.size, 1, none⟩ = false ∧ w2.heap.size < (w2.drew.alloc (.cells #[.int .i64 0, .int .i64 0] 29)).heap.size from ⟨cell_of_row _ _ 0 _ 29 _ hzn, cell_of_row _ _ 1 _ 29 _ hzn, frozen_of_row _ _ 0 _ 29 hzn, frozen_of_row _ _ 1 _ 29 hzn, lt_of_block hzn⟩)
            clear hec hE hch hD hzn
            generalize pt ch = cv at *
            have hA5 : A5 < w2.heap.size := World.block_lt_of_cell? w2 _ d5
            have hbl : b < w2.heap.size := World.block_lt_of_cell? w2 _ hbc
            have n1 : A5 ≠ w2.heap.size := by omega
            have n2 : b ≠ w2.heap.size := by omega
            have HLT := Lib.hid (And.intro hA5 hbl)
            go_upto_region 11 with fail
            clear hec' hA5 hbl
            go_cut [14, 15, 22] from 23 to 77 (fun s14 s15 s22 wx => s22 = .int .i64 ((s : Nat) : Int) ∧ ∃ B : Nat, s14 = .pointer (some ⟨B, 0, none⟩) ∧ ∃ ok : Bool, s15 = .bool ok ∧ ∃ r0 r1, RowKit.Hid (wx.cell? ⟨B, 0, none⟩ = some (.int .i64 r0) ∧ wx.cell? ⟨B, 1, none⟩ = some (.int .i64 r1) ∧ Below w2.heap.size w2 wx ∧ NxR L page mark k (8 * P + s) r0 r1 ok))
            case first =>
              go_region_held3 (fun w' => w'.cell? ⟨A5, 0, none⟩ = some (nxV A3 A4 A5) ∧ w'.cell? ⟨b, s, none⟩ = some cv) (first | exact ⟨ha5, hbs⟩ | exact ⟨cell_alloc ha5 _, cell_alloc hbs _⟩ | exact ⟨cell_far ha5 n1, cell_far hbs n2⟩ | go_keep) (first
                | (go_at_call 30; refine Calls.mono (HCL.out _ HD.out.1) ?_; rintro e w5 ⟨hb5, r0, r1, ok, rfl, hr⟩; have ha5 := cell_keep hb5 (cell_keep HD.out.1 d5); have hbs := cell_keep hb5 (cell_keep HD.out.1 hbc); have n3 : A5 ≠ w5.heap.size := (by have h1 := World.block_lt_of_cell? w5 _ ha5; simp at h1; omega); have n4 : b ≠ w5.heap.size := (by have h1 := World.block_lt_of_cell? w5 _ hbs; simp at h1; omega))
                | (go_at_call 30; refine Calls.mono (HCL.out _ HD.out.2) ?_; rintro e w5 ⟨hb5, r0, r1, ok, rfl, hr⟩; have ha5 := cell_keep hb5 (cell_keep HD.out.2 d5); have hbs := cell_keep hb5 (cell_keep HD.out.2 hbc); have n3 : A5 ≠ w5.heap.size := (by have h1 := World.block_lt_of_cell? w5 _ ha5; simp at h1; omega); have n4 : b ≠ w5.heap.size := (by have h1 := World.block_lt_of_cell? w5 _ hbs; simp at h1; omega); have z0 := cell_keep hb5 HZ.out.1; have z1 := cell_keep hb5 HZ.out.2.1; have zf0 := (hb5.frozen HZ.out.2.2.2.2).trans HZ.out.2.2.1; have zf1 := (hb5.frozen HZ.out.2.2.2.2).trans HZ.out.2.2.2.1))
              all_goals (
                have HR := Lib.hid hr
                clear hr
                go_wp2_with fail
                go_meet
                case rel =>
                  first
                    | exact ⟨rfl, _, rfl, ok, rfl, r0, r1, Lib.hid (mk_alloc HD.out.1 hb5 HR.out)⟩
                    | exact ⟨rfl, _, rfl, ok, rfl, r0, r1, Lib.hid (mk_set HD.out.2 hb5 z0 z1 (Nat.le_refl _) HR.out)⟩)
            case rest =>
              obtain ⟨rfl, B, rfl, ok, rfl, r0, r1, HR⟩ := hcut
              have v0 := HR.out.1
              have v1 := HR.out.2.1
              have HB6 := Lib.hid (HW.out.trans (HR.out.2.2.1.mono HW.out.size))
              have hbc2 := HR.out.2.2.1
              have x0 := cell_keep hbc2 x0
              have x1 := cell_keep hbc2 x1
              have xf0 := (hbc2.frozen HCW.out).trans xf0
              have xf1 := (hbc2.frozen HCW.out).trans xf1
              rcases HR.out.2.2.2 with ⟨rfl, hr⟩ | ⟨rfl, hr⟩
              · have HRR := Lib.hid hr
                have HB7 := Lib.hid (HBW.out.trans (hbc2.mono (by rw [← HC.out]; exact HBW.out.size)))
                clear hr hbc2
                go_wp2_with fail
                obtain ⟨x, hx, hxk, hxq, hok, hmin, rfl, rfl⟩ := HRR.out
                refine bodyPost_ret (v := .tuple #[.agg #[.int .i64 ((x.p : Nat) : Int), .int .i64 (3 * ((x.k : Nat) : Int))], .bool true]) (by simp [results, Try.results30, go_sem, x0, x1, xf0, xf1]) rfl ⟨?_, HL.out.2.found HAB.out.2 hk hs8 hx hxk hxq hok hmin rfl⟩
                refine Below.setCell ?_ (by simp [HC.out]) _
                refine Below.setCell ?_ (by simp [HC.out]) _
                rw [HC.out]
                exact HB7.out
              · have HN := Lib.hid (HSK.out hr)
                clear hr hbc2
                go_wp2_with fail
                go_roundw
                case rel => exact ⟨s + 1, by omega, by simp, Lib.hid ⟨HB6.out, HN.out⟩⟩
                case measure => simp [intOf]; omega
    · obtain rfl : s = 8 := by omega
      go_wp2_with fail
      refine bodyPost_ret (v := .tuple #[.agg #[.int .i64 0, .int .i64 0], .bool false]) (by simp [results, Try.results30, go_sem, x0, x1]) rfl ⟨?_, .inr ⟨HL.out.2.all, rfl⟩⟩
      have hbb := H1.out.2.1.trans (HL.out.1.mono (by rw [← HC.out]; exact H1.out.2.1.size))
      first | (rw [HC.out]; exact hbb) | (refine Below.setCell ?_ (by simp [HC.out]) _; refine Below.setCell ?_ (by simp [HC.out]) _; rw [HC.out]; exact hbb)
theorem nx_any (page mark : Int) (A3 A4 A5 t : Nat) (σ : St) (L : List X) (many nodes : Int) (F : List Nat) (hab : Ab σ L) (hgd : Good L) (hmk : -1 ≤ mark ∧ mark < 3) : ∀ k, NxC σ L t many nodes F page mark A3 A4 A5 k
  | 0 => nx_step page mark A3 A4 A5 t σ L many nodes F hab hgd hmk 0 fun j hj => absurd hj (by omega)
  | k + 1 => nx_step page mark A3 A4 A5 t σ L many nodes F hab hgd hmk (k + 1) fun j hj => by
    obtain rfl : j = k := by omega
    exact nx_any page mark A3 A4 A5 t σ L many nodes F hab hgd hmk j

end Go.Proofs.Ytdnnfoojdfmajaa
