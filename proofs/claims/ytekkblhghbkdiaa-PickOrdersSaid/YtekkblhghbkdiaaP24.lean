/- Parts of the proofs of layer 6 (pick): contracts of its functions, and the laws' walks. -/
import Derived.Test.YtekkblhghbkdiaaProg
import Derived.WalkKit
import Derived.WalkSpells
import Derived.WalkLawsBesides
import Derived.BigQuiet
import Derived.Deep.QuietTactic
import Derived.Lib.Hide
import Derived.Deep.RegionHeld3
import Derived.Deep.DeepCutAuto
import Derived.KernelRfl
import Derived.Deep.OwnRows
import Derived.Laws.CopyOwn
import Derived.Laws.CopyRow
import Derived.StillTailTactics
import Derived.Deep.RegionLaw
import Derived.Test.YtekkblhghbkdiaaP22
import Derived.Deep.RegionHeld3
namespace Go.Proofs.Ytekkblhghbkdiaa
open Go.RowKit
set_option linter.unusedVariables false
set_option linter.unusedSimpArgs false

theorem RAt_none (f : Int) (g : Nat) (F : List Nat) (L : List E) (w : World) (h : Rt w g F L) (hm : L.length ≤ 3000) (hn : ∀ x ∈ L, x.f ≠ f) :
    Calls Try.prog 16 #[.pointer (some ⟨g, 0, none⟩), .int .i64 f] w fun e w' => w = w' ∧ e = .returned (.int .i64 (-1)) :=
  (RAt_any f g F L w h hm).mono fun e w' ⟨h1, h2⟩ => ⟨h1, h2.elim (·.2) fun ⟨i, x, hx, hf, _⟩ => absurd hf (hn x (List.mem_of_getElem? hx))⟩
theorem RAt_at (f : Int) (g : Nat) (F : List Nat) (L : List E) (w : World) (h : Rt w g F L) (hm : L.length ≤ 3000) (hpw : L.Pairwise fun a b => a.f ≠ b.f) (hn : ∃ x ∈ L, x.f = f) :
    ∃ ii : Nat, ∀ k, Calls Try.prog 16 #[.pointer (some ⟨g, 0, none⟩), .int .i64 f] (w.drewN k) fun e w' => e = .returned (.int .i64 (ii : Nat)) ∧ w' = w.drewN k := by
  obtain ⟨x, hx, hf⟩ := hn
  obtain ⟨j, hj, hjx⟩ := List.mem_iff_getElem.1 hx
  refine ⟨j, fun k => (RAt_any f g F L (w.drewN k) (h.drewN k) hm).mono fun e w' ⟨h1, h2⟩ => ⟨?_, h1.symm⟩⟩
  rcases h2 with ⟨h3, _⟩ | ⟨i, y, hy, hyf, rfl⟩
  · exact absurd hf (h3 x hx)
  · obtain ⟨hi, hiy⟩ := List.getElem?_eq_some_iff.1 hy
    rw [List.pairwise_iff_getElem] at hpw
    rcases Nat.lt_trichotomy i j with hij | rfl | hij
    · exact absurd (by rw [hiy, hjx, hyf, hf]) (hpw i j hi hj hij)
    · rfl
    · exact absurd (by rw [hiy, hjx, hyf, hf]) (hpw j i hj hi hij)
theorem two_keep {W W' : World} {F F' : List Nat} {b j1 j2 : Nat} {v1 v2 : Value} (h : W.cell? ⟨b, j1, none⟩ = some v1 ∧ W.cell? ⟨b, j2, none⟩ = some v2) (hc : Chg F F' W W') (hn : b ∉ F) : W'.cell? ⟨b, j1, none⟩ = some v1 ∧ W'.cell? ⟨b, j2, none⟩ = some v2 :=
  ⟨hc.cell h.1 hn, hc.cell h.2 hn⟩
theorem RAt_some (f : Int) (g : Nat) (F : List Nat) (L : List E) (w : World) (h : Rt w g F L) (hm : L.length ≤ 3000) (hn : ∃ x ∈ L, x.f = f) :
    Calls Try.prog 16 #[.pointer (some ⟨g, 0, none⟩), .int .i64 f] w fun e w' => w = w' ∧ ∃ i : Nat, e = .returned (.int .i64 (i : Nat)) :=
  (RAt_any f g F L w h hm).mono fun e w' ⟨h1, h2⟩ => ⟨h1, h2.elim (fun h3 => by obtain ⟨x, hx, hf⟩ := hn; exact absurd hf (h3.1 x hx)) fun ⟨i, x, hx, hf, h3⟩ => ⟨i, h3⟩⟩
theorem wr64 {x : Int} (h0 : -9223372036854775808 ≤ x) (h1 : x ≤ 9223372036854775807) : IntKind.i64.wrap x = x := by
  rw [IntKind.wrap_i64]; omega
/-- Which one comes in round j. -/
def ix (N : Nat) (v : Int) (j : Nat) : Nat := (((N : Nat) : Int) - 1 - (j : Nat) + v).toNat % N
theorem ix_ok {N j : Nat} {v : Int} (hj : j < N) (h0 : 0 ≤ v) (h1 : v ≤ 255) : ∃ q : Nat, q < N ∧ ix N v j = q ∧ (((N : Nat) : Int) - 1 - (j : Nat) + v).tmod (N : Nat) = (q : Nat) := by
  refine ⟨ix N v j, Nat.mod_lt _ (by omega), rfl, ?_⟩
  obtain ⟨m, hm⟩ : ∃ m : Nat, ((N : Nat) : Int) - 1 - (j : Nat) + v = (m : Nat) := ⟨(((N : Nat) : Int) - 1 - (j : Nat) + v).toNat, by omega⟩
  unfold ix
  rw [hm, Int.tmod_eq_emod_of_nonneg (by omega)]
  simp
/-- What b holds after j rounds. -/
def Half (L Mb : List E) (N : Nat) (v : Int) (j : Nat) : Prop := (∀ y ∈ Mb, y ∈ L) ∧ ∀ k, k < j → ∀ y, L[ix N v k]? = some y → y ∈ Mb
theorem half_nil (L : List E) (N : Nat) (v : Int) : Half L [] N v 0 := ⟨fun y hy => by simp at hy, fun k hk => absurd hk (Nat.not_lt_zero _)⟩
theorem Half.more {L Mb : List E} {N : Nat} {v : Int} {j : Nat} (h : Half L Mb N v j) (hpw : L.Pairwise fun a b => a.f ≠ b.f) (hwl : Wl L) {y : E} (hy : L[ix N v j]? = some y) : Half L (putM y Mb) N v (j + 1) := by
  have hyL := List.mem_of_getElem? hy
  have hr : 0 ≤ y.f ∧ y.f ≤ 1023 := hwl y hyL
  have hp : putM y Mb = y :: wo y.f Mb := if_pos hr
  rw [hp]
  refine ⟨fun x hx => ?_, fun k hk x hx => ?_⟩
  · rcases List.mem_cons.1 hx with rfl | hx
    · exact hyL
    · exact h.1 x (mem_wo.1 hx).1
  · by_cases hk2 : k = j
    · subst hk2
      rw [hy] at hx
      cases hx
      simp
    · have h1 := h.2 k (by omega) x hx
      by_cases he : x.f = y.f
      · rw [pw_eq hpw (List.mem_of_getElem? hx) hyL he]
        simp
      · exact List.mem_cons_of_mem _ (mem_wo.2 ⟨h1, he⟩)
theorem Half.all {L Mb : List E} {N : Nat} {v : Int} (h : Half L Mb N v N) (hN : L.length = N) (h0 : 0 ≤ v) (hpw : L.Pairwise fun a b => a.f ≠ b.f) (hpm : Mb.Pairwise fun a b => a.f ≠ b.f) : Mb.Perm L := by
  have nd : ∀ {l : List E}, (l.Pairwise fun a b => a.f ≠ b.f) → l.Nodup := fun h => h.imp fun h e => h (by rw [e])
  rw [List.perm_ext_iff_of_nodup (nd hpm) (nd hpw)]
  refine fun y => ⟨h.1 y, fun hy => ?_⟩
  obtain ⟨q, hq, rfl⟩ := List.mem_iff_getElem.1 hy
  obtain ⟨m, rfl⟩ : ∃ m : Nat, v = (m : Nat) := ⟨v.toNat, by omega⟩
  refine h.2 ((N - 1 + m + (N - q)) % N) (Nat.mod_lt _ (by omega)) _ ?_
  have hNpos : 0 < N := by omega
  have hix : ix N (m : Nat) ((N - 1 + m + (N - q)) % N) = q := by
    unfold ix
    have e1 := Nat.mod_add_div (N - 1 + m + (N - q)) N
    have e2 := Nat.mod_lt (N - 1 + m + (N - q)) hNpos
    generalize (N - 1 + m + (N - q)) % N = r at *
    generalize (N - 1 + m + (N - q)) / N = d at *
    have e3 : ((((N : Nat) : Int) - 1 - (r : Nat) + (m : Nat)).toNat) + N = q + N * d := by omega
    generalize ((((N : Nat) : Int) - 1 - (r : Nat) + (m : Nat)).toNat) = s at *
    have e4 : (s + N) % N = (q + N * d) % N := by rw [e3]
    rw [Nat.add_mod_right, Nat.add_mul_mod_self_left] at e4
    rw [e4, Nat.mod_eq_of_lt (by omega)]
  rw [hix]
  exact List.getElem?_eq_getElem hq
/-- Two and the reference, apart. -/
def Ty (w0 W : World) (a : Nat) (Fa : List Nat) (b : Nat) (Fb : List Nat) (g : Nat) (Fx : List Nat) (Ma Mb L : List E) : Prop :=
  (PH W a Fa Ma ∧ PH W b Fb Mb ∧ Rt W g Fx L ∧ (Sep Fa Fb ∧ Sep Fa Fx ∧ Sep Fb Fx) ∧ ∀ x, x ∈ Fa ++ (Fb ++ Fx) → w0.heap.size ≤ x) ∧ Below w0.heap.size w0 W
section
variable {w0 W W' : World} {a b g : Nat} {Fa Fb Fx F' : List Nat} {Ma Mb L M' : List E}
theorem Ty.keep (h : Ty w0 W a Fa b Fb g Fx Ma Mb L) (hb : Below W.heap.size W W') : Ty w0 W' a Fa b Fb g Fx Ma Mb L :=
  ⟨⟨h.1.1.below hb, h.1.2.1.below hb, h.1.2.2.1.below hb, h.1.2.2.2⟩, h.2.trans (hb.mono h.2.size)⟩
theorem Ty.drew (h : Ty w0 W a Fa b Fb g Fx Ma Mb L) : Ty w0 W.drew a Fa b Fb g Fx Ma Mb L := ⟨⟨h.1.1.drew, h.1.2.1.drew, h.1.2.2.1.drew, h.1.2.2.2⟩, h.2.drew⟩
theorem Ty.drewN (h : Ty w0 W a Fa b Fb g Fx Ma Mb L) (k : Nat) : Ty w0 (W.drewN k) a Fa b Fb g Fx Ma Mb L := h.keep (below_drewN (Below.refl _ _) k)
theorem Ty.ina (h : Ty w0 W a Fa b Fb g Fx Ma Mb L) (hc : Chg Fa F' W W') (hk : PH W' a F' M') : Ty w0 W' a F' b Fb g Fx M' Mb L := by
  obtain ⟨⟨h1, h2, h3, ⟨h4, h5, h6⟩, h7⟩, h8⟩ := h
  refine ⟨⟨hk, h2.chg hc h4.symm, h3.chg hc h5.symm, ⟨hc.sep h4 h2.lt, hc.sep h5 h3.lt, h6⟩, fun x hx => ?_⟩, h8.trans (hc.below (fun x hx => h7 x (by simp [hx])) h8.size)⟩
  rcases List.mem_append.1 hx with hx | hx
  · exact hc.ge (fun x hx => h7 x (by simp [hx])) h8.size x hx
  · exact h7 x (List.mem_append_right _ hx)
theorem Ty.inb (h : Ty w0 W a Fa b Fb g Fx Ma Mb L) (hc : Chg Fb F' W W') (hk : PH W' b F' M') : Ty w0 W' a Fa b F' g Fx Ma M' L := by
  obtain ⟨⟨h1, h2, h3, ⟨h4, h5, h6⟩, h7⟩, h8⟩ := h
  refine ⟨⟨h1.chg hc h4, hk, h3.chg hc h6.symm, ⟨(hc.sep h4.symm h1.lt).symm, h5, hc.sep h6 h3.lt⟩, fun x hx => ?_⟩, h8.trans (hc.below (fun x hx => h7 x (by simp [hx])) h8.size)⟩
  rcases List.mem_append.1 hx with hx | hx
  · exact h7 x (by simp [hx])
  · rcases List.mem_append.1 hx with hx | hx
    · exact hc.ge (fun x hx => h7 x (by simp [hx])) h8.size x hx
    · exact h7 x (by simp [hx])
theorem Ty.inx (h : Ty w0 W a Fa b Fb g Fx Ma Mb L) (hc : Chg Fx F' W W') (hk : Rt W' g F' M') : Ty w0 W' a Fa b Fb g F' Ma Mb M' := by
  obtain ⟨⟨h1, h2, h3, ⟨h4, h5, h6⟩, h7⟩, h8⟩ := h
  refine ⟨⟨h1.chg hc h5, h2.chg hc h6, hk, ⟨h4, (hc.sep h5.symm h1.lt).symm, (hc.sep h6.symm h2.lt).symm⟩, fun x hx => ?_⟩, h8.trans (hc.below (fun x hx => h7 x (by simp [hx])) h8.size)⟩
  rcases List.mem_append.1 hx with hx | hx
  · exact h7 x (by simp [hx])
  · rcases List.mem_append.1 hx with hx | hx
    · exact h7 x (by simp [hx])
    · exact hc.ge (fun x hx => h7 x (by simp [hx])) h8.size x hx
theorem Ty.lefta (h : Ty w0 W a Fa b Fb g Fx Ma Mb L) (hp : Ma.Perm M') : Ty w0 W a Fa b Fb g Fx M' Mb L := ⟨⟨h.1.1.perm hp, h.1.2⟩, h.2⟩
theorem Ty.leftb (h : Ty w0 W a Fa b Fb g Fx Ma Mb L) (hp : Mb.Perm M') : Ty w0 W a Fa b Fb g Fx Ma M' L := ⟨⟨h.1.1, h.1.2.1.perm hp, h.1.2.2⟩, h.2⟩
theorem ty_start {wa wb : World} (hca : Chg [] Fa w0 wa) (hka : PH wa a Fa []) (hcb : Chg [] Fb wa wb) (hkb : PH wb b Fb []) : Ty w0 (wb.alloc (.cells #[.slice none 0 0] 28)) a Fa b Fb wb.heap.size [wb.heap.size] [] [] [] := by
  have hA : Below wb.heap.size wb (wb.alloc (.cells #[.slice none 0 0] 28)) := (Below.refl _ _).alloc (Nat.le_refl _) _
  have ha := hca.below (C := w0.heap.size) (fun b hb => by simp at hb) (Nat.le_refl _)
  have hb := hcb.below (C := wa.heap.size) (fun b hb => by simp at hb) (Nat.le_refl _)
  have hla := hka.lt
  have hlb := hkb.lt
  have hga : ∀ x ∈ Fa, w0.heap.size ≤ x := hca.ge (fun b hb => by simp at hb) (Nat.le_refl _)
  have hgb : ∀ x ∈ Fb, wa.heap.size ≤ x := hcb.ge (fun b hb => by simp at hb) (Nat.le_refl _)
  have s1 := ha.size
  have s2 := hb.size
  refine ⟨⟨(hka.below hb).below hA, hkb.below hA, ⟨_, heap_alloc_new wb _, Sq.nil _ _ _, by simp [vblk_nil], by simp [vblk_nil]⟩, ⟨fun x hx hm => ?_, fun x hx hm => ?_, fun x hx hm => ?_⟩, fun x hx => ?_⟩, (ha.trans (hb.mono s1)).trans (hA.mono (by omega))⟩
  · have := hla x hx; have := hgb x hm; omega
  · have := hla x hx; simp at hm; omega
  · have := hlb x hx; simp at hm; omega
  · rcases List.mem_append.1 hx with hx | hx
    · exact hga x hx
    · rcases List.mem_append.1 hx with hx | hx
      · have := hgb x hx; omega
      · simp at hx; omega
end
set_option maxRecDepth 100000 in
set_option maxHeartbeats 16000000 in
theorem orders_a (ao : Option Addr) (len cap : Nat) (z : Nat → Nat → Int) (v : Int) (hv0 : 0 ≤ v) (hv1 : v ≤ 255) (w : World) (hlc : len ≤ cap) (hcm : cap ≤ maxLen) (hA : Acts w ao len z) (hbig : len ≤ 100) : Calls Try.prog 4 #[.slice ao len cap, .int .u8 v] w fun e w' => e = .returned (.bool true) ∧ Below w.heap.size w w' := by
  have HA := Lib.hid hA
  have hlen : len ≤ 9223372036854775807 := by unfold maxLen at hcm; omega
  clear hA
  go_enter Try.func4, Try.ntmps4
  go_wp2_with fail
  refine (New_any w).mono ?_
  rintro e w0 ⟨a, Fa, rfl, hc0, hk0⟩
  have HI0 := Lib.hid (And.intro hc0 hk0)
  clear hc0 hk0
  go_wp2_with fail
  refine (New_any w0).mono ?_
  rintro e w1 ⟨b, Fb, rfl, hc1, hk1⟩
  have HI := Lib.hid (ty_start HI0.out.1 HI0.out.2 hc1 hk1)
  clear hc1 hk1 HI0
  go_upto_region 3 with fail
  generalize w1.alloc (.cells #[.slice none 0 0] 28) = w2 at *
  generalize w1.heap.size = g at *
  go_wp2_with fail
  refine (awake_any w2).mono ?_
  rintro e w3 ⟨rfl, hb3⟩
  have HT := Lib.hid (HI.out.keep hb3)
  clear hb3 HI
  go_wp2_with fail
  go_loopw [8] (fun s wr => ∃ i : Nat, i ≤ len ∧ i ≤ 100 ∧ s = .int .i64 (i : Nat) ∧ ∃ Fa Fx L, RowKit.Hid (Ty w wr a Fa b Fb g Fx L [] L ∧ 0 ≤ i)) (fun s _ => len - (intOf s).toNat)
  case atStart => exact ⟨0, Nat.zero_le _, Nat.zero_le _, rfl, _, _, _, Lib.hid ⟨HT.out, Nat.le_refl _⟩⟩
  case round =>
    obtain ⟨i, hi, hil, rfl, Fa, Fx, L, HM0⟩ := hrel
    have HM := Lib.hid HM0.out.1
    clear HM0 HT
    by_cases hlt : i < len ∧ i < 100
    · obtain ⟨hlt, h80⟩ := hlt
      obtain ⟨lb, lo, rfl, e0, e1, e2, hwf⟩ := HA.out.below HM.out.2 i hlt
      have h5 : ((i : Nat) : Int) < ((len : Nat) : Int) := by omega
      have h6 : ((i : Nat) : Int) < 100 := by omega
      have hml0 := HM.out.1.1.wl.2.2
      clear e0
      obtain ⟨d1, hd1⟩ : ∃ d, z i 1 = d := ⟨_, rfl⟩
      obtain ⟨d2, hd2⟩ : ∃ d, z i 2 = d := ⟨_, rfl⟩
      have HD := Lib.hid (And.intro hd1 hd2)
      rw [hd1] at e1
      rw [hd2] at e2
      clear hd1 hd2
      by_cases hin : ∃ x ∈ L, x.f = d1
      · obtain ⟨ii, HPB⟩ := RAt_at d1 g Fx L wr HM.out.1.2.2.1 (by omega) HM.out.1.1.wl.2.1 hin
        have HP := Lib.hid HPB
        have hii : ¬ (((ii : Nat) : Int) < 0) := by omega
        clear hin HPB
        go_upto_region 8 with fail
        go_quiet ((go_at_call 16; exact Calls.quiet_of_same (HP.out _)))
        go_wp2_with fail
        exact ⟨⟨i + 1, hlt, h80, by simp, Fa, Fx, L, Lib.hid ⟨HM.out.drewN nq, Nat.zero_le _⟩⟩, by simp [intOf]; omega⟩
      · have HIN := Lib.hid (show ∀ x ∈ L, x.f ≠ d1 from fun x hx e => hin ⟨x, hx, e⟩)
        have HNX := Lib.hid (show lb ∉ Fx from fun hm => by have h1 := HM.out.1.2.2.2.2 lb (by simp [hm]); obtain ⟨lb2, lo2, q1, q2, _⟩ := HA.out i hlt; cases q1; have h2 : lb < w.heap.size := World.block_lt_of_cell? w _ q2; omega)
        clear hin
        by_cases hr : 0 ≤ d1 ∧ d1 ≤ 1023
        · have HE := Lib.hid (show putE d1 = 0 from if_pos hr)
          clear hr
          go_upto_region 8 with fail
          go_region_held3 (fun w' => w'.cell? ⟨lb, lo + i * 3 + 1, none⟩ = some (.int .i64 d1) ∧ w'.cell? ⟨lb, lo + i * 3 + 2, none⟩ = some (.int .i64 d2)) (first | exact two_keep (by assumption) hc6 HNX.out | go_keep) (first
            | (go_at_call 16; refine (RAt_none d1 g Fx L _ HM.out.1.2.2.1.drew (by omega) HIN.out).mono ?_; rintro e _ ⟨rfl, rfl⟩)
            | (go_at_call 12; refine (RPut_any ⟨d1, d2⟩ g Fx L wr.drew HM.out.1.2.2.1.drew (by omega) HM.out.1.1.wl.2.1).mono ?_; rintro e w6 ⟨rfl, F2', hc6, M', hk6, hp6⟩; rw [HE.out]))
          have HM6 := Lib.hid (And.intro (HM.out.drew.inx hc6 hk6) hp6)
          clear hc6 hk6 hp6 e1 e2
          obtain ⟨lb', lo', e', e0, e1, e2, _⟩ := HA.out.below HM6.out.1.2 i hlt
          cases e'
          rw [HD.out.1] at e1
          rw [HD.out.2] at e2
          clear e0
          go_upto_region 9 with fail
          go_still_tail 11, (by kernel_rfl)
          change wpList _ _ _ _ _ (World.drew _)
          go_wp2_with fail
          refine (Put_any a Fa L ⟨d1, d2⟩ _ HM6.out.1.1.1.drew).mono ?_
          rintro e w7 ⟨rfl, Fa7, hc7, hk7⟩
          have HM7 := Lib.hid ((HM6.out.1.drew.ina hc7 hk7).lefta HM6.out.2.symm)
          clear hc7 hk7 e1 e2
          go_wp2_with fail
          exact ⟨⟨i + 1, hlt, h80, by simp, Fa7, F2', M', Lib.hid ⟨HM7.out, Nat.zero_le _⟩⟩, by simp [intOf]; omega⟩
        · have HE := Lib.hid (show putE d1 = 3 from if_neg hr)
          have HF := Lib.hid (show putM ⟨d1, d2⟩ L = L from if_neg hr)
          clear hr
          go_upto_region 8 with fail
          go_region_held3 (fun w' => w'.cell? ⟨lb, lo + i * 3 + 1, none⟩ = some (.int .i64 d1) ∧ w'.cell? ⟨lb, lo + i * 3 + 2, none⟩ = some (.int .i64 d2)) (first | exact two_keep (by assumption) hc6 HNX.out | go_keep) (first
            | (go_at_call 16; refine (RAt_none d1 g Fx L _ HM.out.1.2.2.1.drew (by omega) HIN.out).mono ?_; rintro e _ ⟨rfl, rfl⟩)
            | (go_at_call 12; refine (RPut_any ⟨d1, d2⟩ g Fx L wr.drew HM.out.1.2.2.1.drew (by omega) HM.out.1.1.wl.2.1).mono ?_; rintro e w6 ⟨rfl, F2', hc6, M', hk6, hp6⟩; rw [HE.out]))
          rw [HF.out] at hp6
          have HM6 := Lib.hid ((HM.out.drew.inx hc6 hk6).lefta hp6.symm)
          clear hc6 hk6 hp6 e1 e2
          go_wp2_with fail
          exact ⟨⟨i + 1, hlt, h80, by simp, Fa, F2', M', Lib.hid ⟨HM6.out, Nat.zero_le _⟩⟩, by simp [intOf]; omega⟩
    · skip
      have h5 : ¬ (((i : Nat) : Int) < ((len : Nat) : Int)) := by omega
      clear hlt
      have hml := HM.out.1.1.wl.2.2
      obtain ⟨al, cl, c0, hT0⟩ := HM.out.1.2.2.1.look
      clear hT0
      obtain ⟨N, hN⟩ : ∃ N, L.length = N := ⟨_, rfl⟩
      rw [hN] at hml c0
      have HN := Lib.hid hN
      clear hN
      go_upto_region 11 with fail
      clear c0
      go_wp2_with fail
      go_loopw [10] (fun s wx => ∃ i : Nat, i ≤ N ∧ s = .int .i64 (i : Nat) ∧ ∃ Fb2 Mb, RowKit.Hid (Ty w wx a Fa b Fb2 g Fx L Mb L ∧ Half L Mb N v i)) (fun s _ => N - (intOf s).toNat)
      case atStart => exact ⟨0, Nat.zero_le _, rfl, Fb, [], Lib.hid ⟨HM.out, half_nil _ _ _⟩⟩
      case round =>
        obtain ⟨j, hj, rfl, Fb2, Mb, HS⟩ := hrel
        clear HM
        by_cases hjn : j < N
        · obtain ⟨q, hq, hqI⟩ := ix_ok hjn hv0 hv1
          have hjI : ((j : Nat) : Int) < ((N : Nat) : Int) := by omega
          obtain ⟨al, cl, c0, hT⟩ := HS.out.1.1.2.2.1.look
          obtain ⟨bl, cl2, hvv, _, _, hbl, hcell, _⟩ := hT.read (ne_nil_of_lt (by have := HN.out; omega : q < L.length))
          cases hvv
          have hNb : N ≤ 1024 := by have := HS.out.1.1.1.wl.2.2; have := HN.out; omega
          have hk := List.getElem?_eq_getElem (by have := HN.out; omega : q < L.length)
          generalize L[q]'(by have := HN.out; omega) = y at hk
          obtain ⟨e0, e1⟩ := hcell q _ hk
          have HK := Lib.hid (And.intro hk hqI)
          clear hcell hbl hT hk
          rw [HN.out] at c0
          have p0 : ¬ (N = 0) := by omega
          have p1 : IntKind.i64.wrap (((N : Nat) : Int) - 1) = (N : Nat) - 1 := wr64 (by omega) (by omega)
          have p2 : IntKind.i64.wrap (((N : Nat) : Int) - 1 - (j : Nat)) = (N : Nat) - 1 - (j : Nat) := wr64 (by omega) (by omega)
          have p3 : IntKind.i64.wrap (((N : Nat) : Int) - 1 - (j : Nat) + v) = (N : Nat) - 1 - (j : Nat) + v := wr64 (by omega) (by omega)
          have p4 : IntKind.i64.wrap v = v := wr64 (by omega) (by omega)
          obtain ⟨-, p5⟩ := hqI
          have p6 : (0 : Int) ≤ ((q : Nat) : Int) := by omega
          have p7 : ((q : Nat) : Int) < ((N : Nat) : Int) := by omega
          clear hml
          go_upto_region 15 with fail
          have hA : Below wr.heap.size wr (wr.alloc (.cells #[.int .i64 0, .int .i64 0] 41)) := (Below.refl _ _).alloc (Nat.le_refl _) _
          have hzz := heap_alloc_new wr (.cells #[.int .i64 0, .int .i64 0] 41)
          have z0 : (wr.alloc (.cells #[.int .i64 0, .int .i64 0] 41)).cell? ⟨wr.heap.size, 0, none⟩ = some (.int .i64 0) := cell_of_row _ wr.heap.size 0 _ 41 _ hzz
          have z1 : (wr.alloc (.cells #[.int .i64 0, .int .i64 0] 41)).cell? ⟨wr.heap.size, 1, none⟩ = some (.int .i64 0) := cell_of_row _ wr.heap.size 1 _ 41 _ hzz
          have zf : ∀ j, (wr.alloc (.cells #[.int .i64 0, .int .i64 0] 41)).frozen? ⟨wr.heap.size, j, none⟩ = false := fun j => frozen_of_row _ wr.heap.size j _ 41 hzz
          have c0A := cell_keep hA c0
          have e0A := cell_keep hA e0
          have e1A := cell_keep hA e1
          clear hA hzz
          go_region
          have hb4 : Below wr.heap.size wr (wr.alloc (.cells #[.int .i64 y.f, .int .i64 y.w] 41)).drew := below_drewN ((Below.refl _ _).alloc (Nat.le_refl _) _) 1
          have hx4 := heap_alloc_new wr (.cells #[.int .i64 y.f, .int .i64 y.w] 41)
          have HS2 := Lib.hid (And.intro (HS.out.1.keep hb4) HS.out.2)
          have x0 : (wr.alloc (.cells #[.int .i64 y.f, .int .i64 y.w] 41)).drew.cell? ⟨wr.heap.size, 0, none⟩ = some (.int .i64 y.f) := cell_of_row _ wr.heap.size 0 _ 41 _ hx4
          have x1 : (wr.alloc (.cells #[.int .i64 y.f, .int .i64 y.w] 41)).drew.cell? ⟨wr.heap.size, 1, none⟩ = some (.int .i64 y.w) := cell_of_row _ wr.heap.size 1 _ 41 _ hx4
          clear hb4 hx4 z0 z1 zf c0 e0 e1 c0A e0A e1A p0 p1 p2 p3 p4 p5 p6 p7 HS
          generalize (wr.alloc (.cells #[.int .i64 y.f, .int .i64 y.w] 41)).drew = w5 at *
          generalize wr.heap.size = C5 at *
          go_wp2_with fail
          refine (Put_any b Fb2 Mb y w5 HS2.out.1.1.2.1).mono ?_
          rintro e w6 ⟨rfl, Fb6, hc6, hk6⟩
          have HS6 : RowKit.Hid (Ty w w6 a Fa b Fb6 g Fx L (putM y Mb) L ∧ Half L (putM y Mb) N v (j + 1)) := Lib.hid ⟨HS2.out.1.inb hc6 hk6, HS2.out.2.more HS2.out.1.1.1.wl.2.1 HS2.out.1.1.1.wl.1 (by rw [HK.out.2.1]; exact HK.out.1)⟩
          clear hc6 hk6 x0 x1
          go_wp2_with fail
          exact ⟨⟨j + 1, by omega, by simp, Fb6, putM y Mb, HS6⟩, by simp [intOf]; omega⟩
        · have hjI : ¬ (((j : Nat) : Int) < ((N : Nat) : Int)) := by omega
          have hjN : j = N := by omega
          have HZ := Lib.hid (HS.out.1.leftb (Half.all (hjN ▸ HS.out.2) HN.out hv0 HS.out.1.1.1.wl.2.1 HS.out.1.1.2.1.wl.2.1))
          clear HS
          go_wp2_with fail
          go_loopw [12] (fun s wx => ∃ i : Nat, i ≤ N + 1 ∧ s = .int .i64 (i : Nat) ∧ ∃ Fa3 Fb3 M3, RowKit.Hid (Ty w wx a Fa3 b Fb3 g Fx M3 M3 L ∧ 0 ≤ i)) (fun s _ => N + 1 - (intOf s).toNat)
          case atStart => exact ⟨0, Nat.zero_le _, rfl, Fa, Fb2, L, Lib.hid ⟨HZ.out, Nat.le_refl _⟩⟩
          case round =>
            obtain ⟨k, hk, rfl, Fa3, Fb3, M3, HR⟩ := hrel
            clear HZ
            by_cases hkn : k ≤ N
            · have hkI : ((k : Nat) : Int) ≤ ((N : Nat) : Int) := by omega
              go_wp2_with fail
              refine (Pop_ok a Fa3 M3 wr HR.out.1.1.1).mono ?_
              rintro e w5 ⟨hc5, he⟩
              rcases he with ⟨h0, hk5, rfl⟩ | ⟨x, hx, hk5, rfl⟩
              · subst h0
                have HR5 := Lib.hid (HR.out.1.ina hc5 hk5)
                clear hc5 hk5
                go_wp2_with fail
                refine (Pop_ok b Fb3 [] w5 HR5.out.1.2.1).mono ?_
                rintro e w6 ⟨hc6, he⟩
                rcases he with ⟨_, hk6, rfl⟩ | ⟨x, hx, _⟩
                · have HR6 := Lib.hid (HR5.out.inb hc6 hk6)
                  clear hc6 hk6
                  go_wp2_with fail
                  exact ⟨⟨k + 1, by omega, by simp, Fa3, Fb3, [], Lib.hid ⟨HR6.out, Nat.zero_le _⟩⟩, by simp [intOf]; omega⟩
                · cases hx.1
              · have HX := Lib.hid hx
                have HR5 := Lib.hid (HR.out.1.ina hc5 hk5)
                clear hc5 hk5 hx
                go_wp2_with fail
                refine (Pop_ok b Fb3 M3 w5 HR5.out.1.2.1).mono ?_
                rintro e w6 ⟨hc6, he⟩
                rcases he with ⟨h0, _⟩ | ⟨x', hx', hk6, rfl⟩
                · exact absurd HX.out.1 (by rw [h0]; simp)
                · obtain rfl := fst_unique hx' HX.out
                  have HR6 := Lib.hid (HR5.out.inb hc6 hk6)
                  clear hc6 hk6 hx'
                  go_wp2_with fail
                  exact ⟨⟨k + 1, by omega, by simp, Fa3, Fb3, wo x'.f M3, Lib.hid ⟨HR6.out, Nat.zero_le _⟩⟩, by simp [intOf]; omega⟩
            · have hkI : ¬ (((k : Nat) : Int) ≤ ((N : Nat) : Int)) := by omega
              go_wp2_with fail
              go_ret
              exact ⟨rfl, HR.out.1.2⟩
set_option maxRecDepth 100000 in
set_option maxHeartbeats 16000000 in
theorem orders_b (ao : Option Addr) (len cap : Nat) (z : Nat → Nat → Int) (v : Int) (hv0 : 0 ≤ v) (hv1 : v ≤ 255) (w : World) (hlc : len ≤ cap) (hcm : cap ≤ maxLen) (hA : Acts w ao len z) (hbig : 100 < len) : Calls Try.prog 4 #[.slice ao len cap, .int .u8 v] w fun e w' => e = .returned (.bool true) ∧ Below w.heap.size w w' := by
  have HA := Lib.hid hA
  have hlen : len ≤ 9223372036854775807 := by unfold maxLen at hcm; omega
  clear hA
  go_enter Try.func4, Try.ntmps4
  go_wp2_with fail
  refine (New_any w).mono ?_
  rintro e w0 ⟨a, Fa, rfl, hc0, hk0⟩
  have HI0 := Lib.hid (And.intro hc0 hk0)
  clear hc0 hk0
  go_wp2_with fail
  refine (New_any w0).mono ?_
  rintro e w1 ⟨b, Fb, rfl, hc1, hk1⟩
  have HI := Lib.hid (ty_start HI0.out.1 HI0.out.2 hc1 hk1)
  clear hc1 hk1 HI0
  go_upto_region 3 with fail
  generalize w1.alloc (.cells #[.slice none 0 0] 28) = w2 at *
  generalize w1.heap.size = g at *
  go_wp2_with fail
  refine (awake_any w2).mono ?_
  rintro e w3 ⟨rfl, hb3⟩
  have HT := Lib.hid (HI.out.keep hb3)
  clear hb3 HI
  go_wp2_with fail
  go_loopw [8] (fun s wr => ∃ i : Nat, i ≤ len ∧ i ≤ 100 ∧ s = .int .i64 (i : Nat) ∧ ∃ Fa Fx L, RowKit.Hid (Ty w wr a Fa b Fb g Fx L [] L ∧ 0 ≤ i)) (fun s _ => len - (intOf s).toNat)
  case atStart => exact ⟨0, Nat.zero_le _, Nat.zero_le _, rfl, _, _, _, Lib.hid ⟨HT.out, Nat.le_refl _⟩⟩
  case round =>
    obtain ⟨i, hi, hil, rfl, Fa, Fx, L, HM0⟩ := hrel
    have HM := Lib.hid HM0.out.1
    clear HM0 HT
    by_cases hlt : i < len ∧ i < 100
    · obtain ⟨hlt, h80⟩ := hlt
      obtain ⟨lb, lo, rfl, e0, e1, e2, hwf⟩ := HA.out.below HM.out.2 i hlt
      have h5 : ((i : Nat) : Int) < ((len : Nat) : Int) := by omega
      have h6 : ((i : Nat) : Int) < 100 := by omega
      have hml0 := HM.out.1.1.wl.2.2
      clear e0
      obtain ⟨d1, hd1⟩ : ∃ d, z i 1 = d := ⟨_, rfl⟩
      obtain ⟨d2, hd2⟩ : ∃ d, z i 2 = d := ⟨_, rfl⟩
      have HD := Lib.hid (And.intro hd1 hd2)
      rw [hd1] at e1
      rw [hd2] at e2
      clear hd1 hd2
      by_cases hin : ∃ x ∈ L, x.f = d1
      · obtain ⟨ii, HPB⟩ := RAt_at d1 g Fx L wr HM.out.1.2.2.1 (by omega) HM.out.1.1.wl.2.1 hin
        have HP := Lib.hid HPB
        have hii : ¬ (((ii : Nat) : Int) < 0) := by omega
        clear hin HPB
        go_upto_region 8 with fail
        go_quiet ((go_at_call 16; exact Calls.quiet_of_same (HP.out _)))
        go_wp2_with fail
        exact ⟨⟨i + 1, hlt, h80, by simp, Fa, Fx, L, Lib.hid ⟨HM.out.drewN nq, Nat.zero_le _⟩⟩, by simp [intOf]; omega⟩
      · have HIN := Lib.hid (show ∀ x ∈ L, x.f ≠ d1 from fun x hx e => hin ⟨x, hx, e⟩)
        have HNX := Lib.hid (show lb ∉ Fx from fun hm => by have h1 := HM.out.1.2.2.2.2 lb (by simp [hm]); obtain ⟨lb2, lo2, q1, q2, _⟩ := HA.out i hlt; cases q1; have h2 : lb < w.heap.size := World.block_lt_of_cell? w _ q2; omega)
        clear hin
        by_cases hr : 0 ≤ d1 ∧ d1 ≤ 1023
        · have HE := Lib.hid (show putE d1 = 0 from if_pos hr)
          clear hr
          go_upto_region 8 with fail
          go_region_held3 (fun w' => w'.cell? ⟨lb, lo + i * 3 + 1, none⟩ = some (.int .i64 d1) ∧ w'.cell? ⟨lb, lo + i * 3 + 2, none⟩ = some (.int .i64 d2)) (first | exact two_keep (by assumption) hc6 HNX.out | go_keep) (first
            | (go_at_call 16; refine (RAt_none d1 g Fx L _ HM.out.1.2.2.1.drew (by omega) HIN.out).mono ?_; rintro e _ ⟨rfl, rfl⟩)
            | (go_at_call 12; refine (RPut_any ⟨d1, d2⟩ g Fx L wr.drew HM.out.1.2.2.1.drew (by omega) HM.out.1.1.wl.2.1).mono ?_; rintro e w6 ⟨rfl, F2', hc6, M', hk6, hp6⟩; rw [HE.out]))
          have HM6 := Lib.hid (And.intro (HM.out.drew.inx hc6 hk6) hp6)
          clear hc6 hk6 hp6 e1 e2
          obtain ⟨lb', lo', e', e0, e1, e2, _⟩ := HA.out.below HM6.out.1.2 i hlt
          cases e'
          rw [HD.out.1] at e1
          rw [HD.out.2] at e2
          clear e0
          go_upto_region 9 with fail
          go_still_tail 11, (by kernel_rfl)
          change wpList _ _ _ _ _ (World.drew _)
          go_wp2_with fail
          refine (Put_any a Fa L ⟨d1, d2⟩ _ HM6.out.1.1.1.drew).mono ?_
          rintro e w7 ⟨rfl, Fa7, hc7, hk7⟩
          have HM7 := Lib.hid ((HM6.out.1.drew.ina hc7 hk7).lefta HM6.out.2.symm)
          clear hc7 hk7 e1 e2
          go_wp2_with fail
          exact ⟨⟨i + 1, hlt, h80, by simp, Fa7, F2', M', Lib.hid ⟨HM7.out, Nat.zero_le _⟩⟩, by simp [intOf]; omega⟩
        · have HE := Lib.hid (show putE d1 = 3 from if_neg hr)
          have HF := Lib.hid (show putM ⟨d1, d2⟩ L = L from if_neg hr)
          clear hr
          go_upto_region 8 with fail
          go_region_held3 (fun w' => w'.cell? ⟨lb, lo + i * 3 + 1, none⟩ = some (.int .i64 d1) ∧ w'.cell? ⟨lb, lo + i * 3 + 2, none⟩ = some (.int .i64 d2)) (first | exact two_keep (by assumption) hc6 HNX.out | go_keep) (first
            | (go_at_call 16; refine (RAt_none d1 g Fx L _ HM.out.1.2.2.1.drew (by omega) HIN.out).mono ?_; rintro e _ ⟨rfl, rfl⟩)
            | (go_at_call 12; refine (RPut_any ⟨d1, d2⟩ g Fx L wr.drew HM.out.1.2.2.1.drew (by omega) HM.out.1.1.wl.2.1).mono ?_; rintro e w6 ⟨rfl, F2', hc6, M', hk6, hp6⟩; rw [HE.out]))
          rw [HF.out] at hp6
          have HM6 := Lib.hid ((HM.out.drew.inx hc6 hk6).lefta hp6.symm)
          clear hc6 hk6 hp6 e1 e2
          go_wp2_with fail
          exact ⟨⟨i + 1, hlt, h80, by simp, Fa, F2', M', Lib.hid ⟨HM6.out, Nat.zero_le _⟩⟩, by simp [intOf]; omega⟩
    · skip
      have h6 : ¬ (((i : Nat) : Int) < 100) := by omega
      have h5 : ((i : Nat) : Int) < ((len : Nat) : Int) := by omega
      clear hlt
      have hml := HM.out.1.1.wl.2.2
      obtain ⟨al, cl, c0, hT0⟩ := HM.out.1.2.2.1.look
      clear hT0
      obtain ⟨N, hN⟩ : ∃ N, L.length = N := ⟨_, rfl⟩
      rw [hN] at hml c0
      have HN := Lib.hid hN
      clear hN
      go_upto_region 11 with fail
      clear c0
      go_wp2_with fail
      go_loopw [10] (fun s wx => ∃ i : Nat, i ≤ N ∧ s = .int .i64 (i : Nat) ∧ ∃ Fb2 Mb, RowKit.Hid (Ty w wx a Fa b Fb2 g Fx L Mb L ∧ Half L Mb N v i)) (fun s _ => N - (intOf s).toNat)
      case atStart => exact ⟨0, Nat.zero_le _, rfl, Fb, [], Lib.hid ⟨HM.out, half_nil _ _ _⟩⟩
      case round =>
        obtain ⟨j, hj, rfl, Fb2, Mb, HS⟩ := hrel
        clear HM
        by_cases hjn : j < N
        · obtain ⟨q, hq, hqI⟩ := ix_ok hjn hv0 hv1
          have hjI : ((j : Nat) : Int) < ((N : Nat) : Int) := by omega
          obtain ⟨al, cl, c0, hT⟩ := HS.out.1.1.2.2.1.look
          obtain ⟨bl, cl2, hvv, _, _, hbl, hcell, _⟩ := hT.read (ne_nil_of_lt (by have := HN.out; omega : q < L.length))
          cases hvv
          have hNb : N ≤ 1024 := by have := HS.out.1.1.1.wl.2.2; have := HN.out; omega
          have hk := List.getElem?_eq_getElem (by have := HN.out; omega : q < L.length)
          generalize L[q]'(by have := HN.out; omega) = y at hk
          obtain ⟨e0, e1⟩ := hcell q _ hk
          have HK := Lib.hid (And.intro hk hqI)
          clear hcell hbl hT hk
          rw [HN.out] at c0
          have p0 : ¬ (N = 0) := by omega
          have p1 : IntKind.i64.wrap (((N : Nat) : Int) - 1) = (N : Nat) - 1 := wr64 (by omega) (by omega)
          have p2 : IntKind.i64.wrap (((N : Nat) : Int) - 1 - (j : Nat)) = (N : Nat) - 1 - (j : Nat) := wr64 (by omega) (by omega)
          have p3 : IntKind.i64.wrap (((N : Nat) : Int) - 1 - (j : Nat) + v) = (N : Nat) - 1 - (j : Nat) + v := wr64 (by omega) (by omega)
          have p4 : IntKind.i64.wrap v = v := wr64 (by omega) (by omega)
          obtain ⟨-, p5⟩ := hqI
          have p6 : (0 : Int) ≤ ((q : Nat) : Int) := by omega
          have p7 : ((q : Nat) : Int) < ((N : Nat) : Int) := by omega
          clear hml
          go_upto_region 15 with fail
          have hA : Below wr.heap.size wr (wr.alloc (.cells #[.int .i64 0, .int .i64 0] 41)) := (Below.refl _ _).alloc (Nat.le_refl _) _
          have hzz := heap_alloc_new wr (.cells #[.int .i64 0, .int .i64 0] 41)
          have z0 : (wr.alloc (.cells #[.int .i64 0, .int .i64 0] 41)).cell? ⟨wr.heap.size, 0, none⟩ = some (.int .i64 0) := cell_of_row _ wr.heap.size 0 _ 41 _ hzz
          have z1 : (wr.alloc (.cells #[.int .i64 0, .int .i64 0] 41)).cell? ⟨wr.heap.size, 1, none⟩ = some (.int .i64 0) := cell_of_row _ wr.heap.size 1 _ 41 _ hzz
          have zf : ∀ j, (wr.alloc (.cells #[.int .i64 0, .int .i64 0] 41)).frozen? ⟨wr.heap.size, j, none⟩ = false := fun j => frozen_of_row _ wr.heap.size j _ 41 hzz
          have c0A := cell_keep hA c0
          have e0A := cell_keep hA e0
          have e1A := cell_keep hA e1
          clear hA hzz
          go_region
          have hb4 : Below wr.heap.size wr (wr.alloc (.cells #[.int .i64 y.f, .int .i64 y.w] 41)).drew := below_drewN ((Below.refl _ _).alloc (Nat.le_refl _) _) 1
          have hx4 := heap_alloc_new wr (.cells #[.int .i64 y.f, .int .i64 y.w] 41)
          have HS2 := Lib.hid (And.intro (HS.out.1.keep hb4) HS.out.2)
          have x0 : (wr.alloc (.cells #[.int .i64 y.f, .int .i64 y.w] 41)).drew.cell? ⟨wr.heap.size, 0, none⟩ = some (.int .i64 y.f) := cell_of_row _ wr.heap.size 0 _ 41 _ hx4
          have x1 : (wr.alloc (.cells #[.int .i64 y.f, .int .i64 y.w] 41)).drew.cell? ⟨wr.heap.size, 1, none⟩ = some (.int .i64 y.w) := cell_of_row _ wr.heap.size 1 _ 41 _ hx4
          clear hb4 hx4 z0 z1 zf c0 e0 e1 c0A e0A e1A p0 p1 p2 p3 p4 p5 p6 p7 HS
          generalize (wr.alloc (.cells #[.int .i64 y.f, .int .i64 y.w] 41)).drew = w5 at *
          generalize wr.heap.size = C5 at *
          go_wp2_with fail
          refine (Put_any b Fb2 Mb y w5 HS2.out.1.1.2.1).mono ?_
          rintro e w6 ⟨rfl, Fb6, hc6, hk6⟩
          have HS6 : RowKit.Hid (Ty w w6 a Fa b Fb6 g Fx L (putM y Mb) L ∧ Half L (putM y Mb) N v (j + 1)) := Lib.hid ⟨HS2.out.1.inb hc6 hk6, HS2.out.2.more HS2.out.1.1.1.wl.2.1 HS2.out.1.1.1.wl.1 (by rw [HK.out.2.1]; exact HK.out.1)⟩
          clear hc6 hk6 x0 x1
          go_wp2_with fail
          exact ⟨⟨j + 1, by omega, by simp, Fb6, putM y Mb, HS6⟩, by simp [intOf]; omega⟩
        · have hjI : ¬ (((j : Nat) : Int) < ((N : Nat) : Int)) := by omega
          have hjN : j = N := by omega
          have HZ := Lib.hid (HS.out.1.leftb (Half.all (hjN ▸ HS.out.2) HN.out hv0 HS.out.1.1.1.wl.2.1 HS.out.1.1.2.1.wl.2.1))
          clear HS
          go_wp2_with fail
          go_loopw [12] (fun s wx => ∃ i : Nat, i ≤ N + 1 ∧ s = .int .i64 (i : Nat) ∧ ∃ Fa3 Fb3 M3, RowKit.Hid (Ty w wx a Fa3 b Fb3 g Fx M3 M3 L ∧ 0 ≤ i)) (fun s _ => N + 1 - (intOf s).toNat)
          case atStart => exact ⟨0, Nat.zero_le _, rfl, Fa, Fb2, L, Lib.hid ⟨HZ.out, Nat.le_refl _⟩⟩
          case round =>
            obtain ⟨k, hk, rfl, Fa3, Fb3, M3, HR⟩ := hrel
            clear HZ
            by_cases hkn : k ≤ N
            · have hkI : ((k : Nat) : Int) ≤ ((N : Nat) : Int) := by omega
              go_wp2_with fail
              refine (Pop_ok a Fa3 M3 wr HR.out.1.1.1).mono ?_
              rintro e w5 ⟨hc5, he⟩
              rcases he with ⟨h0, hk5, rfl⟩ | ⟨x, hx, hk5, rfl⟩
              · subst h0
                have HR5 := Lib.hid (HR.out.1.ina hc5 hk5)
                clear hc5 hk5
                go_wp2_with fail
                refine (Pop_ok b Fb3 [] w5 HR5.out.1.2.1).mono ?_
                rintro e w6 ⟨hc6, he⟩
                rcases he with ⟨_, hk6, rfl⟩ | ⟨x, hx, _⟩
                · have HR6 := Lib.hid (HR5.out.inb hc6 hk6)
                  clear hc6 hk6
                  go_wp2_with fail
                  exact ⟨⟨k + 1, by omega, by simp, Fa3, Fb3, [], Lib.hid ⟨HR6.out, Nat.zero_le _⟩⟩, by simp [intOf]; omega⟩
                · cases hx.1
              · have HX := Lib.hid hx
                have HR5 := Lib.hid (HR.out.1.ina hc5 hk5)
                clear hc5 hk5 hx
                go_wp2_with fail
                refine (Pop_ok b Fb3 M3 w5 HR5.out.1.2.1).mono ?_
                rintro e w6 ⟨hc6, he⟩
                rcases he with ⟨h0, _⟩ | ⟨x', hx', hk6, rfl⟩
                · exact absurd HX.out.1 (by rw [h0]; simp)
                · obtain rfl := fst_unique hx' HX.out
                  have HR6 := Lib.hid (HR5.out.inb hc6 hk6)
                  clear hc6 hk6 hx'
                  go_wp2_with fail
                  exact ⟨⟨k + 1, by omega, by simp, Fa3, Fb3, wo x'.f M3, Lib.hid ⟨HR6.out, Nat.zero_le _⟩⟩, by simp [intOf]; omega⟩
            · have hkI : ¬ (((k : Nat) : Int) ≤ ((N : Nat) : Int)) := by omega
              go_wp2_with fail
              go_ret
              exact ⟨rfl, HR.out.1.2⟩

theorem orders_law (ao : Option Addr) (len cap : Nat) (z : Nat → Nat → Int) (v : Int) (hv0 : 0 ≤ v) (hv1 : v ≤ 255) (w : World) (hlc : len ≤ cap) (hcm : cap ≤ maxLen) (hA : Acts w ao len z) : Calls Try.prog 4 #[.slice ao len cap, .int .u8 v] w fun e w' => e = .returned (.bool true) ∧ Below w.heap.size w w' := by
  by_cases h : len ≤ 100
  · exact orders_a ao len cap z v hv0 hv1 w hlc hcm hA h
  · exact orders_b ao len cap z v hv0 hv1 w hlc hcm hA (by omega)

end Go.Proofs.Ytekkblhghbkdiaa
