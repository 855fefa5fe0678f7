/- Parts of the proofs of layer 25 (clock): contracts of its functions, and the laws' walks. -/
import Derived.Test.YtehbonhdhblpgaaProg
import Derived.WalkKit
import Derived.WalkSpells
import Derived.WalkLawsBesides
import Derived.BigQuiet
import Derived.Deep.QuietTactic
import Derived.Lib.Hide
import Derived.Deep.RegionHeld3
import Derived.Deep.DeepCutAuto
import Derived.KernelRfl
import Derived.Deep.OwnRows
import Derived.Laws.CopyOwn
import Derived.Laws.CopyRow
import Derived.StillTailTactics
import Derived.Deep.RegionLaw
import Derived.Test.YtehbonhdhblpgaaC21
namespace Go.Proofs.Ytehbonhdhblpgaa
open Go.RowKit
set_option linter.unusedVariables false
set_option linter.unusedSimpArgs false

theorem nodup_inj : ∀ {l : List K}, (l.map K.key).Nodup → ∀ {a b : K}, a ∈ l → b ∈ l → a.key = b.key → a = b
  | [], _, _, _, h, _, _ => by simp at h
  | c :: l, hn, a, b, ha, hb, e => by
    rw [List.map_cons, List.nodup_cons] at hn
    rcases List.mem_cons.1 ha with h | ha'
    · rcases List.mem_cons.1 hb with h' | hb'
      · exact h.trans h'.symm
      · exact absurd (List.mem_map.2 ⟨b, hb', by rw [← e, h]⟩) hn.1
    · rcases List.mem_cons.1 hb with h' | hb'
      · exact absurd (List.mem_map.2 ⟨a, ha', by rw [e, h']⟩) hn.1
      · exact nodup_inj hn.2 ha' hb' e
/-- Where a key stands. -/
theorem idx_of {l : List K} (hn : (l.map K.key).Nodup) {k : K} (hk : k ∈ l) : idx l k.key < l.length ∧ l[idx l k.key]? = some k := by
  have h1 := (idx_mem l k.key).2 ⟨k, hk, rfl⟩
  obtain ⟨k', h2, h3⟩ := idx_get l k.key h1
  have := nodup_inj hn (List.mem_of_getElem? h2) hk h3
  subst this
  exact ⟨h1, h2⟩
theorem Rel.get {ks L : List K} {h : Nat} (r : Rel ks L h) {x : S} (hx : idx L x < L.length) : ∃ k, L[idx L x]? = some k ∧ ares ks x = .tuple #[.int .i64 k.a, .int .i64 0] := by
  obtain ⟨k, h1, h2⟩ := idx_get L x hx
  subst h2
  have hm : k ∈ ks := by rw [r.1]; exact (rot_mem L h k).2 (List.mem_of_getElem? h1)
  obtain ⟨h3, h4⟩ := idx_of r.2.1 hm
  exact ⟨k, h1, ares_in h3 h4⟩
theorem Rel.noget {ks L : List K} {h : Nat} (r : Rel ks L h) {x : S} (hx : ¬ idx L x < L.length) : ares ks x = .tuple #[.int .i64 0, .int .i64 6] :=
  ares_out (by rw [r.1]; exact fun q => hx ((rot_in L h x).1 q))
theorem ores_form (l : List K) : ∃ a b c, ores l = .tuple #[.agg #[.int .i64 a, .int .i64 b], .int .i64 c] := by
  cases l with
  | nil => exact ⟨0, 0, 6, rfl⟩
  | cons k l => exact ⟨_, _, 0, rfl⟩
theorem SBox.new (w : World) (x : S) : SBox (w.alloc (.cells #[.int .i64 x.s, .int .i64 x.p] 24)) w.heap.size x := heap_alloc_new w _
/-- A law's state: both clocks, the spot's box. -/
def LSt (w : World) (x : S) (g : Nat) (F1 : List Nat) (g2 : Nat) (F2 : List Nat) (ks L : List K) (h : Nat) (W : World) : Prop :=
  Two W g F1 g2 F2 ks L h ∧ (ks.length ≤ 80 ∧ AgeOk ks 80) ∧ SBox W w.heap.size x ∧ (∀ b, b ∈ F1 ++ F2 → w.heap.size < b) ∧ Below w.heap.size w W
theorem LSt.below {w W W' : World} {x : S} {g g2 h : Nat} {F1 F2 : List Nat} {ks L : List K} (t : LSt w x g F1 g2 F2 ks L h W) (hb : Below W.heap.size W W') : LSt w x g F1 g2 F2 ks L h W' :=
  ⟨t.1.below hb, t.2.1, t.2.2.1.below hb, t.2.2.2.1, t.2.2.2.2.trans (hb.mono t.2.2.2.2.size)⟩
theorem LSt.of {w w0 W : World} {x : S} {g g2 h : Nat} {F1 F2 : List Nat} {ks L : List K} (hX : SBox w0 w.heap.size x) (hb0 : Below w.heap.size w w0) (hm : Made w0.heap.size W g F1 g2 F2 ks L h 80) (hb : Below w0.heap.size w0 W) : LSt w x g F1 g2 F2 ks L h W :=
  ⟨hm.1, hm.2.1, hX.below hb, fun b h => Nat.lt_of_lt_of_le hX.lt (hm.2.2 b h), hb0.trans (hb.mono hb0.size)⟩
theorem RC.cell0 {w : World} {g : Nat} {F : List Nat} {L : List K} {h : Nat} (r : RC w g F L h) : ∃ ao cap, w.cell? ⟨g, 0, none⟩ = some (.slice ao L.length cap) := by
  obtain ⟨v, rfl, h1, h2, h3, h4⟩ := r
  obtain ⟨ao, cap, rfl, _, _⟩ := h3.slice
  exact ⟨ao, cap, cell_of_row w g 0 _ 42 _ h2⟩
theorem RC.key {w : World} {g : Nat} {F : List Nat} {L : List K} {h i : Nat} {k : K} (r : RC w g F L h) (hk : L[i]? = some k) :
    ∃ b cap, w.cell? ⟨g, 0, none⟩ = some (.slice (some ⟨b, 0, none⟩) L.length cap) ∧ w.cell? ⟨b, i * 4 + 2, none⟩ = some (.bool k.t) ∧ w.cell? ⟨b, i * 4 + 3, none⟩ = some (.int .i64 k.a) := by
  obtain ⟨v, rfl, h1, h2, h3, h4⟩ := r
  obtain ⟨g0, g1, e2, e3⟩ := kc_get L i k hk
  have hi := (List.getElem?_eq_some_iff.1 hk).1
  rcases h3.cases with ⟨_, h0⟩ | ⟨b, cap, rfl, _, _, _, hcell, _⟩
  · omega
  · exact ⟨b, cap, cell_of_row w g 0 _ 42 _ h2, hcell _ _ e2, hcell _ _ e3⟩
theorem keep5 {w w' : World} {A B G : Nat} {a b c d : Value} {e : Value} (h : w.cell? ⟨A, 0, none⟩ = some a ∧ w.cell? ⟨A, 1, none⟩ = some b ∧ w.cell? ⟨B, 0, none⟩ = some c ∧ w.cell? ⟨B, 1, none⟩ = some d ∧ w.cell? ⟨G, 0, none⟩ = some e) (hb : Below w.heap.size w w') :
    w'.cell? ⟨A, 0, none⟩ = some a ∧ w'.cell? ⟨A, 1, none⟩ = some b ∧ w'.cell? ⟨B, 0, none⟩ = some c ∧ w'.cell? ⟨B, 1, none⟩ = some d ∧ w'.cell? ⟨G, 0, none⟩ = some e :=
  ⟨cell_keep hb h.1, cell_keep hb h.2.1, cell_keep hb h.2.2.1, cell_keep hb h.2.2.2.1, cell_keep hb h.2.2.2.2⟩
theorem below_undrew {B : Nat} {w w' : World} (h : Below B w.drew w') : Below B w w' := ⟨h.os, h.tape, h.output, h.size, h.block⟩
set_option maxRecDepth 100000 in
set_option maxHeartbeats 8000000 in
theorem does_law (ao : Option Addr) (len cap : Nat) (z : Nat → Nat → Int) (x : S) (w : World) (hlc : len ≤ cap) (hcm : cap ≤ maxLen) (hA : Acts w ao len z) :
    Calls Try.prog 6 #[.slice ao len cap, .agg #[.int .i64 x.s, .int .i64 x.p]] w fun e w' => e = .returned (.bool true) ∧ Below w.heap.size w w' := by
  have hb0 : Below w.heap.size w (w.alloc (.cells #[.int .i64 x.s, .int .i64 x.p] 24)) := (Below.refl _ w).alloc (Nat.le_refl _) _
  have hX := heap_alloc_new w (.cells #[.int .i64 x.s, .int .i64 x.p] 24)
  have hA0 := hA.below hb0
  go_enter Try.func6, Try.ntmps6
  go_wp2_with fail
  generalize w.alloc (.cells #[.int .i64 x.s, .int .i64 x.p] 24) = w0 at *
  refine (made_any ao len cap z w0 hlc hcm hA0).mono ?_
  rintro e w1 ⟨g, g2, F1, F2, ks, L, h, rfl, hm1, hb1⟩
  have HM1 := Lib.hid (LSt.of hX hb0 hm1 hb1)
  clear hm1 hb1 hX hb0 hA0 hA
  go_wp2_with fail
  refine (awake_any w1).mono ?_
  rintro e w2 ⟨rfl, hb2⟩
  have HM2 := Lib.hid (HM1.out.below hb2)
  clear hb2 HM1
  obtain ⟨d0, d1⟩ := HM2.out.2.2.1.cells
  go_wp2_with fail
  refine (age_any g F1 ks x w2 HM2.out.1.1 (by have := HM2.out.2.1.1; omega)).mono ?_
  rintro e w3 ⟨rfl, hb3⟩
  have HM3 := Lib.hid (HM2.out.below hb3)
  clear hb3 HM2 d0 d1
  obtain ⟨d0, d1⟩ := HM3.out.2.2.1.cells
  obtain ⟨oa, ob, oc, ho⟩ := ores_form ks
  have HO := Lib.hid ho
  clear ho
  by_cases hx : idx L x < L.length
  · obtain ⟨k, hk, hres⟩ := HM3.out.1.2.2.2.get hx
    rw [hres]
    have HK := Lib.hid hk
    clear hk hres
    go_wp2_with fail
    refine (at_any g2 F2 L h x w3 HM3.out.1.2.1 (by have := HM3.out.2.1.1; have := HM3.out.1.2.2.2.length; omega)).mono ?_
    rintro e w4 ⟨rfl, hb4⟩
    have HM4 := Lib.hid (HM3.out.below hb4)
    clear hb4 HM3 d0 d1
    obtain ⟨d0, d1⟩ := HM4.out.2.2.1.cells
    rw [show ares' L x = (idx L x : Nat) from if_pos hx]
    obtain ⟨b, capL, c0, e2, e3⟩ := HM4.out.1.2.1.key HK.out
    generalize idx L x = i at hx e2 e3 HK ⊢
    have h1 : decide ((i : Int) < 0) = false := decide_eq_false (by omega)
    have h2 : decide ((0 : Int) ≤ (i : Int)) = true := decide_eq_true (by omega)
    have h3 : ((i : Nat) : Int) < ((L.length : Nat) : Int) := by omega
    go_wp2_with fail
    refine (oldest_any g F1 ks w4 HM4.out.1.1 (by have := HM4.out.2.1.1; omega)).mono ?_
    rintro e w5 ⟨rfl, hb5⟩
    rw [HO.out]
    have HM5 := Lib.hid (HM4.out.below hb5)
    clear hb5 HM4
    go_upto_region 9 with fail
    have hA6 : Below w5.heap.size w5 (w5.alloc (.cells #[.int .i64 oa, .int .i64 ob] 24)) := (Below.refl _ w5).alloc (Nat.le_refl _) _
    have hB6 := SBox.new w5 ⟨oa, ob⟩
    have HM6 := Lib.hid (HM5.out.below hA6)
    clear hA6 HM5
    generalize w5.heap.size = T1 at *
    dsimp only at hB6
    generalize w5.alloc (.cells #[.int .i64 oa, .int .i64 ob] 24) = w6 at *
    go_wp2_with fail
    refine (roldest_any g2 F2 L h w6 HM6.out.1.2.1 (by have := HM6.out.2.1.1; have := HM6.out.1.2.2.2.length; omega)).mono ?_
    rintro e w7 ⟨rfl, hb7⟩
    rw [← HM6.out.1.2.2.2.1, HO.out]
    have HM7 := Lib.hid (HM6.out.below hb7)
    replace hB6 := hB6.below hb7
    clear hb7 HM6
    go_upto_region 10 with fail
    have hA8 : Below w7.heap.size w7 (w7.alloc (.cells #[.int .i64 oa, .int .i64 ob] 24)) := (Below.refl _ w7).alloc (Nat.le_refl _) _
    have hB8 := SBox.new w7 ⟨oa, ob⟩
    have HM8 := Lib.hid (HM7.out.below hA8)
    replace hB6 := hB6.below hA8
    clear hA8 HM7
    generalize w7.heap.size = T2 at *
    dsimp only at hB8
    generalize w7.alloc (.cells #[.int .i64 oa, .int .i64 ob] 24) = w8 at *
    obtain ⟨p0, p1⟩ := hB6.cells
    obtain ⟨q0, q1⟩ := hB8.cells
    dsimp only at p0 p1 q0 q1
    obtain ⟨aoL, capL, r0⟩ := HM8.out.1.2.1.cell0
    have HLN := Lib.hid HM8.out.1.2.2.2.length
    have HKEY := Lib.hid HM8.out.1.2.2.2.keys_all
    clear hB6 hB8 d0 d1
    go_region_held3 (fun w' => w'.cell? ⟨T1, 0, none⟩ = some (.int .i64 oa) ∧ w'.cell? ⟨T1, 1, none⟩ = some (.int .i64 ob) ∧ w'.cell? ⟨T2, 0, none⟩ = some (.int .i64 oa) ∧ w'.cell? ⟨T2, 1, none⟩ = some (.int .i64 ob) ∧ w'.cell? ⟨g2, 0, none⟩ = some (.slice aoL L.length capL))
      (first | exact keep5 (by assumption) hba | exact keep5 (by assumption) hbb | exact keep5 (by assumption) hbc | exact ⟨p0, p1, q0, q1, r0⟩ | go_keep)
      (first
        | (go_at_call 19; refine (all_any g F1 ks _ HM8.out.1.drew.1 (by have := HM8.out.2.1.1; omega)).mono ?_; rintro e wa ⟨v1, rfl, hv1, hca⟩; have hba := hca.below (C := w8.drew.heap.size) (fun b hb => by simp at hb) (Nat.le_refl _))
        | (go_at_call 18; refine (rall_any g2 F2 L h _ (HM8.out.1.drew.2.1.below hba) (by have := HM8.out.2.1.1; have := HLN.out; omega)).mono ?_; rintro e wb ⟨v2, rfl, hv2, hcb⟩; have hbb := hcb.below (C := wa.heap.size) (fun b hb => by simp at hb) (Nat.le_refl _))
        | (go_at_call 20; refine (same_any v1 v2 (ks.map K.key) (ks.map K.key) _ (hv1.below hbb) (by rw [HKEY.out]; exact hv2) (by rw [List.length_map]; have := HM8.out.2.1.1; omega)).mono ?_; rintro e wc ⟨rfl, hbc⟩)
        | (go_at_call 23; refine (len_any g F1 ks _ (((HM8.out.1.drew.1.below hba).below hbb).below hbc)).mono ?_; rintro e _ ⟨rfl, rfl⟩; rw [HLN.out]))
    go_wp2_with fail
    exact bodyPost_ret (results_tmp rfl _ _ _) rfl ⟨rfl, HM8.out.2.2.2.2.trans ((below_undrew (below2 (below2 hba hbb) hbc)).mono HM8.out.2.2.2.2.size)⟩
  · rw [HM3.out.1.2.2.2.noget hx]
    go_wp2_with fail
    refine (at_any g2 F2 L h x w3 HM3.out.1.2.1 (by have := HM3.out.2.1.1; have := HM3.out.1.2.2.2.length; omega)).mono ?_
    rintro e w4 ⟨rfl, hb4⟩
    have HM4 := Lib.hid (HM3.out.below hb4)
    clear hb4 HM3 d0 d1
    obtain ⟨d0, d1⟩ := HM4.out.2.2.1.cells
    rw [show ares' L x = -1 from if_neg hx]
    go_wp2_with fail
    refine (oldest_any g F1 ks w4 HM4.out.1.1 (by have := HM4.out.2.1.1; omega)).mono ?_
    rintro e w5 ⟨rfl, hb5⟩
    rw [HO.out]
    have HM5 := Lib.hid (HM4.out.below hb5)
    clear hb5 HM4
    go_upto_region 9 with fail
    have hA6 : Below w5.heap.size w5 (w5.alloc (.cells #[.int .i64 oa, .int .i64 ob] 24)) := (Below.refl _ w5).alloc (Nat.le_refl _) _
    have hB6 := SBox.new w5 ⟨oa, ob⟩
    have HM6 := Lib.hid (HM5.out.below hA6)
    clear hA6 HM5
    generalize w5.heap.size = T1 at *
    dsimp only at hB6
    generalize w5.alloc (.cells #[.int .i64 oa, .int .i64 ob] 24) = w6 at *
    go_wp2_with fail
    refine (roldest_any g2 F2 L h w6 HM6.out.1.2.1 (by have := HM6.out.2.1.1; have := HM6.out.1.2.2.2.length; omega)).mono ?_
    rintro e w7 ⟨rfl, hb7⟩
    rw [← HM6.out.1.2.2.2.1, HO.out]
    have HM7 := Lib.hid (HM6.out.below hb7)
    replace hB6 := hB6.below hb7
    clear hb7 HM6
    go_upto_region 10 with fail
    have hA8 : Below w7.heap.size w7 (w7.alloc (.cells #[.int .i64 oa, .int .i64 ob] 24)) := (Below.refl _ w7).alloc (Nat.le_refl _) _
    have hB8 := SBox.new w7 ⟨oa, ob⟩
    have HM8 := Lib.hid (HM7.out.below hA8)
    replace hB6 := hB6.below hA8
    clear hA8 HM7
    generalize w7.heap.size = T2 at *
    dsimp only at hB8
    generalize w7.alloc (.cells #[.int .i64 oa, .int .i64 ob] 24) = w8 at *
    obtain ⟨p0, p1⟩ := hB6.cells
    obtain ⟨q0, q1⟩ := hB8.cells
    dsimp only at p0 p1 q0 q1
    obtain ⟨aoL, capL, r0⟩ := HM8.out.1.2.1.cell0
    have HLN := Lib.hid HM8.out.1.2.2.2.length
    have HKEY := Lib.hid HM8.out.1.2.2.2.keys_all
    clear hB6 hB8 d0 d1
    go_region_held3 (fun w' => w'.cell? ⟨T1, 0, none⟩ = some (.int .i64 oa) ∧ w'.cell? ⟨T1, 1, none⟩ = some (.int .i64 ob) ∧ w'.cell? ⟨T2, 0, none⟩ = some (.int .i64 oa) ∧ w'.cell? ⟨T2, 1, none⟩ = some (.int .i64 ob) ∧ w'.cell? ⟨g2, 0, none⟩ = some (.slice aoL L.length capL))
      (first | exact keep5 (by assumption) hba | exact keep5 (by assumption) hbb | exact keep5 (by assumption) hbc | exact ⟨p0, p1, q0, q1, r0⟩ | go_keep)
      (first
        | (go_at_call 19; refine (all_any g F1 ks _ HM8.out.1.drew.1 (by have := HM8.out.2.1.1; omega)).mono ?_; rintro e wa ⟨v1, rfl, hv1, hca⟩; have hba := hca.below (C := w8.drew.heap.size) (fun b hb => by simp at hb) (Nat.le_refl _))
        | (go_at_call 18; refine (rall_any g2 F2 L h _ (HM8.out.1.drew.2.1.below hba) (by have := HM8.out.2.1.1; have := HLN.out; omega)).mono ?_; rintro e wb ⟨v2, rfl, hv2, hcb⟩; have hbb := hcb.below (C := wa.heap.size) (fun b hb => by simp at hb) (Nat.le_refl _))
        | (go_at_call 20; refine (same_any v1 v2 (ks.map K.key) (ks.map K.key) _ (hv1.below hbb) (by rw [HKEY.out]; exact hv2) (by rw [List.length_map]; have := HM8.out.2.1.1; omega)).mono ?_; rintro e wc ⟨rfl, hbc⟩)
        | (go_at_call 23; refine (len_any g F1 ks _ (((HM8.out.1.drew.1.below hba).below hbb).below hbc)).mono ?_; rintro e _ ⟨rfl, rfl⟩; rw [HLN.out]))
    go_wp2_with fail
    exact bodyPost_ret (results_tmp rfl _ _ _) rfl ⟨rfl, HM8.out.2.2.2.2.trans ((below_undrew (below2 (below2 hba hbb) hbc)).mono HM8.out.2.2.2.2.size)⟩

end Go.Proofs.Ytehbonhdhblpgaa
