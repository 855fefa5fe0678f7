/- Parts of the proofs of layer 3 (geo): contracts of its functions, and the laws' walks. -/
import Derived.Test.YtnpcpgjaffpnjaaProg
import Derived.WalkKit
import Derived.WalkSpells
import Derived.WalkLawsBesides
import Derived.BigQuiet
import Derived.Deep.QuietTactic
import Derived.Lib.Hide
import Derived.Deep.RegionHeld3
import Derived.Deep.DeepCutAuto
import Derived.KernelRfl
import Derived.Test.YtnpcpgjaffpnjaaG4
namespace Go.Proofs.Ytnpcpgjaffpnjaa
open Go.RowKit
set_option linter.unusedVariables false
set_option linter.unusedSimpArgs false

/-- A block's order: the greatest of 0, 3, 6 that fits. -/
def kk (at_ n most : Int) : Int := if 6 ≤ most ∧ at_ % 64 = 0 ∧ 64 ≤ n then 6 else if 3 ≤ most ∧ at_ % 8 = 0 ∧ 8 ≤ n then 3 else 0
/-- A stretch's blocks: their first pages and orders. -/
def cuts (most : Int) : Nat → Int → Int → List (Int × Int)
  | 0, _, _ => []
  | f + 1, at_, n => if n ≤ 0 then [] else (at_, kk at_ n most) :: cuts most f (at_ + two (kk at_ n most)) (n - two (kk at_ n most))
def blk (p : Int × Int) : List Value := [.int .i64 p.1, .int .i64 p.2]
def blks (l : List (Int × Int)) : List Value := l.flatMap blk
theorem blks_length (l : List (Int × Int)) : (blks l).length = l.length * 2 := by
  induction l with
  | nil => rfl
  | cons p l ih => simp [blks, List.flatMap_cons, blk] at ih ⊢; omega
theorem blks_snoc (l : List (Int × Int)) (p : Int × Int) : blks (l ++ [p]) = blks l ++ blk p := by simp [blks]
theorem two_pos (n : Int) : 1 ≤ two n := by unfold two; exact Int.pow_pos (by omega)
theorem kk_cases (at_ n most : Int) (hn : 0 < n) : (kk at_ n most = 0 ∨ kk at_ n most = 3 ∨ kk at_ n most = 6) ∧ two (kk at_ n most) ≤ n ∧ 1 ≤ two (kk at_ n most) := by
  obtain ⟨t0, _, _, t3, _, _, t6, _, _⟩ := two_vals
  unfold kk
  split
  · exact ⟨.inr (.inr rfl), by rw [t6]; omega, by rw [t6]; omega⟩
  · split
    · exact ⟨.inr (.inl rfl), by rw [t3]; omega, by rw [t3]; omega⟩
    · exact ⟨.inl rfl, by rw [t0]; omega, by rw [t0]; omega⟩
/-- More rounds tell the same. -/
theorem cuts_more (most : Int) : ∀ (f g : Nat) (at_ n : Int), n ≤ f → n ≤ g → cuts most f at_ n = cuts most g at_ n
  | 0, 0, _, _, _, _ => rfl
  | 0, g + 1, at_, n, h, _ => by simp only [cuts]; rw [if_pos (by omega)]
  | f + 1, 0, at_, n, _, h => by simp only [cuts]; rw [if_pos (by omega)]
  | f + 1, g + 1, at_, n, h1, h2 => by
    simp only [cuts]
    by_cases hn : n ≤ 0
    · rw [if_pos hn, if_pos hn]
    · rw [if_neg hn, if_neg hn]
      have hk := kk_cases at_ n most (by omega)
      rw [cuts_more most f g _ _ (by omega) (by omega)]
/-- The closure that puts a block: what it captured is one cell, out. -/
def Cap (w : World) (g : Nat) (base : Nat) (l : List (Int × Int)) : Prop :=
  ∃ v, w.heap[g]? = some (.cells #[v] 38 (0, 0)) ∧ w.ownsRow base 41 2 v l.length (blks l) ∧ g < base
theorem info41 : (Try.prog.info? 41).map (fun i => (i.zero, i.size, i.bytes)) = some (some (.agg #[.int .i64 0, .int .i64 0]), 2, 16) := by kernel_rfl
set_option maxHeartbeats 2000000 in
theorem put_any (l : List (Int × Int)) (p : Int × Int) (g base b : Nat) (w : World) (hc : Cap w g base l) (hl : l.length ≤ 4096) (hb : base ≤ w.heap.size) (h0 : w.cell? ⟨b, 0, none⟩ = some (.int .i64 p.1)) (h1 : w.cell? ⟨b, 1, none⟩ = some (.int .i64 p.2)) :
    Calls Try.prog 27 #[.slice (some ⟨b, 0, none⟩) 1 1, .pointer (some ⟨g, 0, none⟩)] w fun e w' => e = .returned (.tuple #[]) ∧ Cap w' g base (l ++ [p]) ∧ Below g w w' := by
  obtain ⟨v, hv, hown, hgb⟩ := hc
  have c0 := cell_of_one hv
  have f0 := free_of_one hv
  have HV := Lib.hid hv
  clear hv
  obtain ⟨i0, hi, hz0, hz1, hz2⟩ := info_parts info41
  go_enter Try.func27, Try.ntmps27
  go_wp2_with (at_builtin; refine wpList_append_own _ rfl (.tmp 3) (.tmp 4) 38 rfl base 41 i0 (.agg #[.int .i64 0, .int .i64 0]) 2 16 Try.underlying38 hi hz0 hz1 hz2 rfl (by decide) _ _ _ rfl hown ⟨b, 0, none⟩ 1 1 (blk p) rfl rfl ?c1 ?c2 ?c3 ?c4 ?c5 ?_)
  case c1 =>
    intro j u hj
    match j, hj with
    | 0, hj => simp [blk] at hj; subst hj; simpa [Addr.add] using h0
    | 1, hj => simp [blk] at hj; subst hj; simpa [Addr.add] using h1
    | j + 2, hj => simp [blk] at hj
  case c2 => intro u hu; simp [blk] at hu; rcases hu with rfl | rfl <;> rfl
  case c3 => unfold maxLen; omega
  case c4 => omega
  case c5 => exact hb
  intro v' w1 hown1 hg1 hnil
  obtain ⟨ao, cap, rfl, _, _⟩ := (RV.of_own hown1).slice
  have hlt := lt_of_block HV.out
  have hne : some g ≠ v.ownBlock := by
    intro h
    have := (hown.lt g h.symm).1
    omega
  have hv1 : w1.heap[g]? = some (.cells #[v] 38 (0, 0)) := (hg1.block g hlt hne).trans HV.out
  have c1 := cell_of_one hv1
  have f1 := free_of_one hv1
  have HV1 := Lib.hid hv1
  have HG := Lib.hid hg1
  have HO := Lib.hid hown
  clear hv1 hg1 hnil c0 f0 h0 h1 hown
  go_wp2
  go_end0
  refine ⟨rfl, ⟨_, one_setCell HV1.out, ?_, hgb⟩, ?_⟩
  · rw [blks_snoc, List.length_append, List.length_singleton]
    exact ownsRow_setCell_below hown1 hgb _
  · refine Below.setCell (p := ⟨g, 0, none⟩) ?_ (Nat.le_refl g) _
    exact (Below.refl _ _).grown HG.out (Nat.le_of_lt hlt) (fun k hk => by have := (HO.out.lt k hk).1; omega)

theorem Cap.alloc {w : World} {g base : Nat} {l : List (Int × Int)} (h : Cap w g base l) (o : Obj) : Cap (w.alloc o) g base l := by
  obtain ⟨v, hv, hown, hgb⟩ := h
  exact ⟨v, (Below.heap_alloc w o g (lt_of_block hv)).trans hv, hown.alloc o, hgb⟩
theorem cuts_succ (most : Int) (f : Nat) (a n : Int) : cuts most (f + 1) a n = if n ≤ 0 then [] else (a, kk a n most) :: cuts most f (a + two (kk a n most)) (n - two (kk a n most)) := rfl
theorem cuts_next {most at_ n a e k : Int} {l : List (Int × Int)} (h : l ++ cuts most 4096 a (e - a) = cuts most 4096 at_ n) (hk : kk a (e - a) most = k) (h0 : a < e) (h1 : e - a ≤ 4096) :
    (l ++ [(a, k)]) ++ cuts most 4096 (a + two k) (e - (a + two k)) = cuts most 4096 at_ n := by
  rw [← h, List.append_assoc]
  congr 1
  have e1 : cuts most 4096 a (e - a) = (a, k) :: cuts most 4095 (a + two k) (e - a - two k) := by
    have h3 := cuts_succ most 4095 a (e - a)
    rw [if_neg (by omega), hk] at h3
    exact h3
  have h2 := two_pos k
  rw [e1, cuts_more most 4095 4096 (a + two k) (e - a - two k) (by omega) (by omega), show e - a - two k = e - (a + two k) from by omega]
  rfl
theorem kk_le (a n most : Int) (hm : 0 ≤ most) : kk a n most ≤ most ∧ (kk a n most = 0 ∨ kk a n most = 3 ∨ kk a n most = 6) := by
  unfold kk
  split
  · exact ⟨by omega, .inr (.inr rfl)⟩
  · split
    · exact ⟨by omega, .inr (.inl rfl)⟩
    · exact ⟨by omega, .inl rfl⟩
/-- A round of the search for the order. -/
theorem kk_step (a n most k : Int) (hn : 1 ≤ n) (h0 : k = 0 ∨ k = 3 ∨ k = 6) (hk : k ≤ most) (hkk : kk a n most ≤ k) :
    (evn a k = true ∧ two k ≤ n → kk a n most = k) ∧ (evn a k = false ∨ n < two k → kk a n most ≤ k - 3 ∧ 3 ≤ k) := by
  obtain ⟨t0, _, _, t3, _, _, t6, _, _⟩ := two_vals
  have e0 : evn a 0 = true := by simp [evn, ord, t0]
  have e3 : evn a 3 = decide (a % 8 = 0) := by simp [evn, ord, t3]; rfl
  have e6 : evn a 6 = decide (a % 64 = 0) := by simp [evn, ord, t6]; rfl
  rcases h0 with rfl | rfl | rfl
  · rw [e0, t0]
    have := kk_le a n most hk
    exact ⟨fun _ => by omega, fun h => by rcases h with h | h <;> first | cases h | omega⟩
  · rw [e3, t3]
    unfold kk at hkk ⊢
    refine ⟨fun h => ?_, fun h => ?_⟩
    · have h8 : a % 8 = 0 := by simpa using h.1
      split
      · omega
      · rw [if_pos ⟨hk, h8, h.2⟩]
    · have h8 : ¬ (a % 8 = 0 ∧ 8 ≤ n) := by
        rcases h with h | h
        · have : ¬ a % 8 = 0 := by simpa using h
          omega
        · omega
      rw [if_neg (by omega), if_neg (by omega)]
      omega
  · rw [e6, t6]
    unfold kk at hkk ⊢
    refine ⟨fun h => ?_, fun h => ?_⟩
    · have h8 : a % 64 = 0 := by simpa using h.1
      rw [if_pos ⟨hk, h8, h.2⟩]
    · have h8 : ¬ (a % 64 = 0 ∧ 64 ≤ n) := by
        rcases h with h | h
        · have : ¬ a % 64 = 0 := by simpa using h
          omega
        · omega
      rw [if_neg (by omega)]
      split <;> omega
theorem two_wrap (k : Int) (h0 : k = 0 ∨ k = 3 ∨ k = 6) : wrap64 (2 ^ k.toNat) = two k := by
  rcases h0 with rfl | rfl | rfl <;> (unfold wrap64; rfl)
set_option maxHeartbeats 4000000 in
theorem cut_any (at_ n most : Int) (w : World) (hr : rgt at_ n 0 = 0) (ho : ord most = true) (h0 : 1 ≤ at_) (h1 : 1 ≤ n) (h2 : at_ + n ≤ 4096) :
    Calls Try.prog 22 #[.int .i64 at_, .int .i64 n, .int .i64 most] w fun e w' => ∃ v, e = .returned v ∧ RV w' 2 v (cuts most 4096 at_ n).length (blks (cuts most 4096 at_ n)) ∧ Below w.heap.size w w' := by
  have hm : 0 ≤ most ∧ most ≤ 8 := by simpa [ord] using ho
  obtain ⟨hm0, hm1⟩ := hm
  have k0 : (rgt at_ n 0 != 0) = false := by rw [hr]; rfl
  clear hr
  go_enter Try.func22, Try.ntmps22
  go_wp2_with (first | (go_at_call 19; refine (right_any _ _ _ _ (by omega) (by omega) (by omega) (by omega)).mono ?_; rintro e w1 ⟨rfl, rfl⟩) | (go_at_call 24; refine (order_any _ _).mono ?_; rintro e w1 ⟨rfl, rfl⟩))
  go_loopw [0] (fun s0 wr => ∃ (l : List (Int × Int)) (a : Int), s0 = .int .i64 a ∧ at_ ≤ a ∧ a ≤ at_ + n ∧ RowKit.Hid ((l.length : Int) ≤ a - at_) ∧ Cap wr w.heap.size (w.heap.size + 1) l ∧ RowKit.Hid (l ++ cuts most 4096 a (at_ + n - a) = cuts most 4096 at_ n) ∧ Below w.heap.size w wr ∧ w.heap.size < wr.heap.size) (fun s0 _ => (at_ + n - intOf s0).toNat)
  case atStart => exact ⟨[], at_, rfl, by omega, by omega, Lib.hid (by simp), ⟨_, heap_alloc_new _ _, World.ownsRow_nil _ _ _ _, by omega⟩, Lib.hid (by rw [show at_ + n - at_ = n from by omega]; rfl), (Below.refl _ _).alloc (Nat.le_refl _) _, by simp⟩
  case round =>
    obtain ⟨l, a, rfl, ha0, ha1, HL, hcap, HC, hbl, hsz⟩ := hrel
    by_cases hlt : a < at_ + n
    · have hmost : 0 ≤ most := hm0
      have hkl := kk_le a (at_ + n - a) most hm0
      have HKL := Lib.hid hkl
      clear hkl
      go_wp2_with fail
      go_loop [10] (fun s => ∃ k : Int, s = .int .i64 k ∧ RowKit.Hid (k = 0 ∨ k = 3 ∨ k = 6) ∧ (0 ≤ k ∧ k ≤ 6) ∧ k ≤ most ∧ RowKit.Hid (kk a (at_ + n - a) most ≤ k)) (fun s => (intOf s).toNat)
      case atStart => exact ⟨most - most % 3, rfl, Lib.hid (by omega), by omega, by omega, Lib.hid (by have := HKL.out; omega)⟩
      case round =>
        obtain ⟨k, rfl, H3, hk6, hkm, HKK⟩ := hrel
        obtain ⟨hk0, hk6⟩ := hk6
        have HS := Lib.hid (kk_step a (at_ + n - a) most k (by omega) H3.out hkm HKK.out)
        have htw := two_wrap k H3.out
        by_cases hd : evn a k = true ∧ two k ≤ at_ + n - a
        · have HE := Lib.hid (HS.out.1 hd)
          obtain ⟨d1, d2⟩ := hd
          have d3 : ¬ at_ + n - a < two k := by omega
          go_wp2_with (first | (go_at_call 17; refine (even_any _ _ _ (by omega) (by omega)).mono ?_; rintro e w1 ⟨rfl, rfl⟩))
          have hal : w.heap.size < (wr.alloc (.cells #[.int .i64 a, .int .i64 k] 41)).heap.size := by simp; omega
          have hcap1 := hcap.alloc (.cells #[.int .i64 a, .int .i64 k] 41)
          have hll : l.length ≤ 4096 := by have := HL.out; omega
          have hbl1 := hbl.alloc (Nat.le_of_lt hsz) (.cells #[.int .i64 a, .int .i64 k] 41)
          refine (put_any l (a, k) _ _ _ _ hcap1 hll (Nat.succ_le_of_lt hal) (by simp) (by simp)).mono ?_
          rintro e w2 ⟨rfl, hcap2, hb2⟩
          have h1k := two_pos k
          go_wp2
          go_roundw
          case rel => exact ⟨l ++ [(a, k)], a + two k, rfl, by omega, by omega, Lib.hid (by simp; have := HL.out; omega), hcap2, Lib.hid (cuts_next HC.out HE.out (by omega) (by omega)), hbl1.trans hb2, Nat.lt_of_lt_of_le hal hb2.size⟩
          case measure => simp [intOf]; omega
        · have HT := Lib.hid (HS.out.2 (by cases h : evn a k <;> simp [h] at hd ⊢; omega))
          have hk3 : 3 ≤ k := HT.out.2
          by_cases hv : evn a k = true
          · have hd3 : at_ + n - a < two k := by
              rcases Int.lt_or_le (at_ + n - a) (two k) with h | h
              · exact h
              · exact absurd ⟨hv, h⟩ hd
            clear hd
            go_wp2_with (first | (go_at_call 17; refine (even_any _ _ _ (by omega) (by omega)).mono ?_; rintro e w1 ⟨rfl, rfl⟩))
            go_round
            case rel => exact ⟨k - 3, rfl, Lib.hid (by have := H3.out; omega), by omega, by omega, Lib.hid HT.out.1⟩
            case measure => simp [intOf]; omega
          · have hv2 : evn a k = false := by simpa using hv
            clear hd hv
            go_wp2_with (first | (go_at_call 17; refine (even_any _ _ _ (by omega) (by omega)).mono ?_; rintro e w1 ⟨rfl, rfl⟩))
            go_round
            case rel => exact ⟨k - 3, rfl, Lib.hid (by have := H3.out; omega), by omega, by omega, Lib.hid HT.out.1⟩
            case measure => simp [intOf]; omega
    · obtain ⟨v, hv, hown, hgb⟩ := hcap
      have c0 := cell_of_one hv
      have HV := Lib.hid hv
      have HF := Lib.hid (show cuts most 4096 at_ n = l by
        have h := HC.out
        rw [show at_ + n - a = 0 from by omega, show cuts most 4096 a 0 = [] from rfl, List.append_nil] at h
        exact h.symm)
      clear hv
      go_wp2
      go_ret
      refine ⟨_, rfl, ?_, hbl⟩
      rw [HF.out]
      exact RV.of_own hown

end Go.Proofs.Ytnpcpgjaffpnjaa
