/- Parts of the proofs of layer 19 (radix): contracts of its functions, and the laws' walks. -/
import Derived.Test.YtdnnfoojdfmajaaProg
import Derived.WalkKit
import Derived.WalkSpells
import Derived.WalkLawsBesides
import Derived.BigQuiet
import Derived.Deep.QuietTactic
import Derived.Lib.Hide
import Derived.Deep.RegionHeld3
import Derived.Deep.DeepCutAuto
import Derived.KernelRfl
import Derived.Deep.OwnRows
import Derived.Laws.CopyOwn
import Derived.Laws.CopyRow
import Derived.StillTailTactics
import Derived.Deep.RegionLaw
import Derived.Handy
import Derived.Deep.CutRange
import Derived.Deep.CutBlock
import Derived.Test.YtdnnfoojdfmajaaA9
import Derived.Test.YtdnnfoojdfmajaaA10
import Derived.Test.YtdnnfoojdfmajaaR9
namespace Go.Proofs.Ytdnnfoojdfmajaa
open Go.RowKit
set_option linter.unusedVariables false
set_option linter.unusedSimpArgs false

section
variable {t r : Nat} {σ : St} {L : List X}
theorem JEnd.jc {w w' : World} {F : List Nat} {k P : Nat} {e : Ending} (h : JEnd w r F L k P e w') : ∃ c, JC L k P c ∧ e = .returned (.int .i64 c) ∧ ((c ≠ 0 ∧ Below w.heap.size w w') ∨ (c = 0 ∧ ∃ i Y, Row8 L i k P Y ∧ AlkY Y ∧ ∃ F', Chg F F' w w' ∧ Rt w' r F' (ins ⟨(Y 0).p, k + 1, (Y 0).v, (Y 0).a, (Y 0).b, (Y 0).c⟩ (dl i 8 L)))) := by
  rcases h with ⟨j, hj, h1, h2, hb⟩ | ⟨i, Y, hr, h⟩
  · rcases h2 with ⟨h2, rfl⟩ | ⟨h2, rfl⟩
    · exact ⟨5, .inl ⟨j, hj, h1, .inl ⟨h2, rfl⟩⟩, rfl, .inl ⟨by decide, hb⟩⟩
    · exact ⟨6, .inl ⟨j, hj, h1, .inr ⟨h2, rfl⟩⟩, rfl, .inl ⟨by decide, hb⟩⟩
  · rcases h with ⟨h1, rfl, hb⟩ | ⟨h1, rfl, h2⟩
    · exact ⟨5, .inr ⟨i, Y, hr, .inl ⟨h1, rfl⟩⟩, rfl, .inl ⟨by decide, hb⟩⟩
    · exact ⟨0, .inr ⟨i, Y, hr, .inr ⟨h1, rfl⟩⟩, rfl, .inr ⟨rfl, i, Y, hr, h1, h2⟩⟩
theorem join_both (page : Int) (hab : Ab σ L) (hg : Good L) : ∃ (c : Int) (L' : List X), Good L' ∧ Kept L L' page ∧ PDo 23 #[.pointer (some ⟨t, 0, none⟩), .int .i64 page] (.int .i64 c) t σ L L' ∧ RDo 52 #[.pointer (some ⟨r, 0, none⟩), .int .i64 page] (.int .i64 c) r L L' := by
  have hlen := hg.length
  rcases pg_cases L page with h | ⟨g, rfl, hg4, hn⟩ | ⟨g, i, x, rfl, hg4, hi, hc⟩
  · exact ⟨3, L, hg, Kept.refl _ _, PDo.of hab fun w F hp => Join_out page t w h, RDo.of fun w G hr => RJoin_err page 3 (by decide) r w (RFind_out page r w h)⟩
  · exact ⟨6, L, hg, Kept.refl _ _, PDo.of hab fun w F hp => Join_nf g t σ _ _ F w hg4 hp (hab.nf hg hg4 hn), RDo.of fun w G hr => RJoin_err (g : Nat) 6 (by decide) r w (RFind_nf (g : Nat) r G L w (by omega) hr hg (nfI hn))⟩
  · have hx := List.mem_of_getElem? hi
    have hxo := hg.1 x hx
    obtain ⟨l, e, hA, hE⟩ := hab.at_ hg hx hg4 hc
    have hcI : CovI x (g : Nat) := CovI.iff.2 hc
    by_cases hk2 : x.k = 2
    · exact ⟨2, L, hg, Kept.refl _ _, PDo.of hab fun w F hp => Join_top g t σ _ _ F x.k e l w hg4 hp hA hE hk2, RDo.of fun w G hr => RJoin_top g i x r G L w hr hg (by omega) hi hcI hk2⟩
    · have hk1 : x.k ≤ 1 := by have := hxo.1; omega
      have hq := (hxo.cov g).1 hc
      have hxP : x.p / 8 ^ (x.k + 1) = g / 8 ^ (x.k + 1) := div_up (by omega) hq
      obtain ⟨c, hjc⟩ := JC.total hg hx rfl hxP hk1
      have hV : ∀ i, i < 8 → -1152921504606846976 ≤ σ.V x.k (8 * (g / 8 ^ (x.k + 1)) + i) ∧ σ.V x.k (8 * (g / 8 ^ (x.k + 1)) + i) ≤ 1152921504606846976 ∨ σ.E x.k (8 * (g / 8 ^ (x.k + 1)) + i) = none := fun i hi => by
        cases hee : σ.E x.k (8 * (g / 8 ^ (x.k + 1)) + i) with
        | none => exact .inr rfl
        | some b =>
          left
          obtain ⟨y, hy, yk, yp⟩ := (hab.e _ _).1 ⟨b, hee⟩
          have := hab.v y hy
          rw [yk, yp, Nat.mul_div_cancel _ (Nat.pow_pos (by decide))] at this
          rw [this]
          exact (hg.1 y hy).2.2.2
      have hP := fun w F (hp : Hp w t σ ((L.length : Nat) : Int) ((cntN σ.N : Nat) : Int) F) => Join_any g t σ _ _ F x.k e l w hg4 hp hA hE hk1 hV (bounds hg σ)
      have hR := fun w G (hr : Rt w r G L) => RJoin_any g i x r G L w hr hg (by omega) hi hcI hk1 x.k (g / 8 ^ (x.k + 1)) rfl rfl
      by_cases hc0 : c = 0
      · subst hc0
        obtain ⟨i0, Y, hrow, hal⟩ : ∃ i Y, Row8 L i x.k (g / 8 ^ (x.k + 1)) Y ∧ AlkY Y := by
          rcases hjc with ⟨_, _, _, ⟨_, h⟩ | ⟨_, h⟩⟩ | ⟨i, Y, hr, ⟨_, h⟩ | ⟨ha, _⟩⟩
          · exact absurd h (by decide)
          · exact absurd h (by decide)
          · exact absurd h (by decide)
          · exact ⟨i, Y, hr, ha⟩
        have hj := fun x0 => hab.join (x0 := x0) hg hk1 hrow hal
        refine ⟨0, ins ⟨(Y 0).p, x.k + 1, (Y 0).v, (Y 0).a, (Y 0).b, (Y 0).c⟩ (dl i0 8 L), (hj 0).1, fun y hy hf => ins_mem.2 (.inr ((dl8_mem hg hrow).2 ⟨hy, fun j hj e => hf ?_⟩)), fun w F hp => ?_, fun w G hr => ?_⟩
        · subst e
          have e1 : (Y j).p / 8 ^ (x.k + 1) = g / 8 ^ (x.k + 1) := by rw [div_step, (hrow j hj).2.2, Nat.mul_div_cancel _ (Nat.pow_pos (by decide))]; omega
          have e2 : (Y j).p / 64 = g / 64 := div_up (j := x.k + 1) (k := 2) (by omega) e1
          rw [e2]
          omega
        · refine (hP w F hp).mono ?_
          rintro _ w' ⟨c', hak, rfl, h⟩
          have := (hak.jc hab hg hx rfl hxP hk1).uniq hg (by omega) hjc
          subst this
          rcases h with ⟨h, _⟩ | ⟨_, x0, _, h1, h2⟩
          · exact absurd rfl h
          · obtain ⟨_, a1, a2⟩ := hj x0
            refine ⟨rfl, F, _, h2, ?_, a1⟩
            have h7 := (List.getElem?_eq_some_iff.1 (hrow 7 (by omega)).1).1
            have e1 : (((ins ⟨(Y 0).p, x.k + 1, (Y 0).v, (Y 0).a, (Y 0).b, (Y 0).c⟩ (dl i0 8 L)).length : Nat) : Int) = ((L.length : Nat) : Int) - 7 := by
              rw [ins_length, dl_length (by omega)]
              omega
            rw [e1, show ((cntN (σ.join x.k (g / 8 ^ (x.k + 1)) x0).N : Nat) : Int) = ((cntN σ.N : Nat) : Int) - 1 from by omega]
            exact h1
        · refine (hR w G hr).mono ?_
          intro e' w' h
          obtain ⟨c', hjc', rfl, h9⟩ := h.jc
          have := hjc'.uniq hg (by omega) hjc
          subst this
          rcases h9 with ⟨h8, _⟩ | ⟨_, i', Y', hr', _, F', h1, h2⟩
          · exact absurd rfl h8
          · obtain ⟨rfl, hY⟩ := hr'.same hg hrow
            rw [hY 0 (by omega)] at h2
            exact ⟨rfl, F', h1, h2⟩
      · refine ⟨c, L, hg, Kept.refl _ _, PDo.of hab fun w F hp => (hP w F hp).mono ?_, RDo.of fun w G hr => (hR w G hr).mono ?_⟩
        · rintro _ w' ⟨c', hak, rfl, h⟩
          have := (hak.jc hab hg hx rfl hxP hk1).uniq hg (by omega) hjc
          subst this
          rcases h with ⟨_, h⟩ | ⟨h, _⟩
          · exact ⟨rfl, h⟩
          · exact absurd h hc0
        · intro e' w' h
          obtain ⟨c', hjc', rfl, h9⟩ := h.jc
          have := hjc'.uniq hg (by omega) hjc
          subst this
          rcases h9 with ⟨_, h8⟩ | ⟨h8, _⟩
          · exact ⟨rfl, h8⟩
          · exact absurd h8 hc0
end
set_option maxRecDepth 100000 in
set_option maxHeartbeats 8000000 in
theorem one_join (page o v mark : Int) (on : Bool) (t r : Nat) (σ : St) (L : List X) (F G : List Nat) (w : World) (h : Tw w t r σ L F G) : Calls Try.prog 40 #[.pointer (some ⟨t, 0, none⟩), .pointer (some ⟨r, 0, none⟩), .agg #[.int .i64 6, .int .i64 page, .int .i64 o, .int .i64 v, .int .i64 mark, .bool on]] w fun e w' => OneOk w t r L F G page e w' := by
  obtain ⟨fi, fc, _, hfi⟩ := find_gen page r L h.gd
  have HFI := Lib.hid hfi
  obtain ⟨c, L', hs⟩ := join_both page h.ab h.gd (t := t) (r := r)
  have HS := Lib.hid hs
  clear hfi hs
  have hz := heap_alloc_new w (.cells #[.int .i64 6, .int .i64 page, .int .i64 o, .int .i64 v, .int .i64 mark, .bool on] 52)
  have hA : Below w.heap.size w (w.alloc (.cells #[.int .i64 6, .int .i64 page, .int .i64 o, .int .i64 v, .int .i64 mark, .bool on] 52)) := (Below.refl _ _).alloc (Nat.le_refl _) _
  have x0 : (w.alloc (.cells #[.int .i64 6, .int .i64 page, .int .i64 o, .int .i64 v, .int .i64 mark, .bool on] 52)).cell? ⟨w.heap.size, 0, none⟩ = some (.int .i64 6) := cell_of_row _ _ 0 _ 52 _ hz
  have x1 : (w.alloc (.cells #[.int .i64 6, .int .i64 page, .int .i64 o, .int .i64 v, .int .i64 mark, .bool on] 52)).cell? ⟨w.heap.size, 1, none⟩ = some (.int .i64 page) := cell_of_row _ _ 1 _ 52 _ hz
  have x2 : (w.alloc (.cells #[.int .i64 6, .int .i64 page, .int .i64 o, .int .i64 v, .int .i64 mark, .bool on] 52)).cell? ⟨w.heap.size, 2, none⟩ = some (.int .i64 o) := cell_of_row _ _ 2 _ 52 _ hz
  have x3 : (w.alloc (.cells #[.int .i64 6, .int .i64 page, .int .i64 o, .int .i64 v, .int .i64 mark, .bool on] 52)).cell? ⟨w.heap.size, 3, none⟩ = some (.int .i64 v) := cell_of_row _ _ 3 _ 52 _ hz
  have x4 : (w.alloc (.cells #[.int .i64 6, .int .i64 page, .int .i64 o, .int .i64 v, .int .i64 mark, .bool on] 52)).cell? ⟨w.heap.size, 4, none⟩ = some (.int .i64 mark) := cell_of_row _ _ 4 _ 52 _ hz
  have x5 : (w.alloc (.cells #[.int .i64 6, .int .i64 page, .int .i64 o, .int .i64 v, .int .i64 mark, .bool on] 52)).cell? ⟨w.heap.size, 5, none⟩ = some (.bool on) := cell_of_row _ _ 5 _ 52 _ hz
  have HB0 := Lib.hid (And.intro hA (And.intro (lt_of_block hz) (And.intro (fun hm => Nat.lt_irrefl _ (h.hp.lt _ hm) : w.heap.size ∉ F) (fun hm => Nat.lt_irrefl _ (h.rt.lt _ hm) : w.heap.size ∉ G))))
  have HT0 := Lib.hid (h.below hA)
  have HX := Lib.hid (And.intro x0 (And.intro x1 (And.intro x2 (And.intro x3 (And.intro x4 x5)))))
  clear hz hA h x2 x3 x4 x5
  go_enter Try.func40, Try.ntmps40
  go_upto_region 1 with fail
  generalize hD : w.heap.size = D at *
  have HD := Lib.hid hD
  clear hD
  generalize w.alloc (.cells #[.int .i64 6, .int .i64 page, .int .i64 o, .int .i64 v, .int .i64 mark, .bool on] 52) = w1 at *
  go_upto_region 2 with (go_at_call 35; refine (HFI.out w1 G HT0.out.rt).mono ?_; rintro e w2 ⟨rfl, hb⟩)
  have HB := Lib.hid (And.intro (HB0.out.1.trans (hb.mono (by have := HB0.out.1.size; have := HD.out; omega))) (And.intro (Nat.lt_of_lt_of_le HB0.out.2.1 hb.size) HB0.out.2.2))
  have HT := Lib.hid (HT0.out.below hb)
  have x0 := cell_keep hb HX.out.1
  have x1 := cell_keep hb HX.out.2.1
  have x2 := cell_keep hb HX.out.2.2.1
  have x3 := cell_keep hb HX.out.2.2.2.1
  have x4 := cell_keep hb HX.out.2.2.2.2.1
  have x5 := cell_keep hb HX.out.2.2.2.2.2
  clear hb HX HT0 HB0
  go_wp2_with fail
  go_region_held3 (fun w' => w'.cell? ⟨D, 0, none⟩ = some (.int .i64 6) ∧ w'.cell? ⟨D, 1, none⟩ = some (.int .i64 page) ∧ w'.cell? ⟨D, 2, none⟩ = some (.int .i64 o) ∧ w'.cell? ⟨D, 3, none⟩ = some (.int .i64 v) ∧ w'.cell? ⟨D, 4, none⟩ = some (.int .i64 mark) ∧ w'.cell? ⟨D, 5, none⟩ = some (.bool on)) (first | exact six_chg (by assumption) hca HB.out.2.2.1 | exact six_chg (by assumption) hcb HB.out.2.2.2 | go_keep) (first
    | (go_at_call 23; refine (HS.out.2.2.1 _ F HT.out.hp.drew).mono ?_; rintro e wa ⟨rfl, F1, σ1, hca, hka, haba⟩)
    | (go_at_call 52; refine (HS.out.2.2.2 _ G ((HT.out.rt.drew).chg hca HT.out.sep.symm)).mono ?_; rintro e wb ⟨rfl, G1, hcb, hrb⟩))
  go_wp2_with fail
  go_ret
  obtain ⟨a1, a2⟩ := HT.out.drew.fin hca hka haba HS.out.1 hcb hrb
  exact ⟨rfl, σ1, _, F1, G1, a1, (Chg.of_below (by rw [HD.out]; exact HB.out.1.drew)).trans a2, HS.out.2.1⟩

theorem one_any (kind : Int) (page o v mark : Int) (on : Bool) (t r : Nat) (σ : St) (L : List X) (F G : List Nat) (w : World) (h : Tw w t r σ L F G) : Calls Try.prog 40 #[.pointer (some ⟨t, 0, none⟩), .pointer (some ⟨r, 0, none⟩), .agg #[.int .i64 kind, .int .i64 page, .int .i64 o, .int .i64 v, .int .i64 mark, .bool on]] w fun e w' => OneOk w t r L F G page e w' := by
  by_cases k3 : kind = 3
  · subst k3; exact one_del page o v mark on t r σ L F G w h
  · by_cases k4 : kind = 4
    · subst k4; exact one_chg page o v mark on t r σ L F G w h
    · by_cases k5 : kind = 5
      · subst k5; exact one_split page o v mark on t r σ L F G w h
      · by_cases k6 : kind = 6
        · subst k6; exact one_join page o v mark on t r σ L F G w h
        · by_cases k7 : kind = 7
          · subst k7; exact one_mark7 page o v mark on t r σ L F G w h
          · by_cases k8 : kind = 8
            · subst k8; exact one_mark8 page o v mark on t r σ L F G w h
            · by_cases k0 : kind = 0 ∨ kind = 1 ∨ kind = 2
              · exact one_set kind k0 page o v mark on t r σ L F G w h
              · exact one_get kind ⟨fun e => k0 (.inl e), fun e => k0 (.inr (.inl e)), fun e => k0 (.inr (.inr e)), k3, k4, k5, k6, k7, k8⟩ page o v mark on t r σ L F G w h

end Go.Proofs.Ytdnnfoojdfmajaa
