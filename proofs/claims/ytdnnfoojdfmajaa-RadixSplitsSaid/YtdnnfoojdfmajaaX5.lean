/- Parts of the proofs of layer 19 (radix): contracts of its functions, and the laws' walks. -/
import Derived.Test.YtdnnfoojdfmajaaProg
import Derived.WalkKit
import Derived.WalkSpells
import Derived.WalkLawsBesides
import Derived.BigQuiet
import Derived.Deep.QuietTactic
import Derived.Lib.Hide
import Derived.Deep.RegionHeld3
import Derived.Deep.DeepCutAuto
import Derived.KernelRfl
import Derived.Deep.OwnRows
import Derived.Laws.CopyOwn
import Derived.Laws.CopyRow
import Derived.StillTailTactics
import Derived.Deep.RegionLaw
import Derived.Handy
import Derived.Deep.CutRange
import Derived.Deep.CutBlock
import Derived.Test.YtdnnfoojdfmajaaX4
namespace Go.Proofs.Ytdnnfoojdfmajaa
open Go.RowKit
set_option linter.unusedVariables false
set_option linter.unusedSimpArgs false

/-- A page's entry: the level, the nodes down to it. -/
structure At (σ : St) (g κ : Nat) (l : List Nat) : Prop where
  le : κ ≤ 3
  len : l.length + κ = 4
  nd : ∀ i, i < l.length → σ.N (3 - i) (g / 8 ^ (4 - i)) = l[i]?
  bel : σ.bel κ (g / 8 ^ κ) = none
theorem At.last {σ : St} {g κ : Nat} {l : List Nat} (h : At σ g κ l) : ∃ b, σ.N κ (g / 8 ^ (κ + 1)) = some b ∧ l[3 - κ]? = some b := by
  have h1 := h.nd (3 - κ) (by have := h.len; have := h.le; omega)
  have hl : 3 - κ < l.length := by have := h.len; have := h.le; omega
  rw [show 3 - (3 - κ) = κ from by have := h.le; omega, show 4 - (3 - κ) = κ + 1 from by have := h.le; omega, List.getElem?_eq_getElem hl] at h1
  exact ⟨l[3 - κ], h1, List.getElem?_eq_getElem hl⟩
/-- A page's entry, found: a row of the nodes down to it lies at vb. -/
structure Fd (σ : St) (g : Nat) (w : World) (B κ m : Nat) (l : List Nat) (b x vb cap : Nat) : Prop where
  at_ : At σ g κ l
  mq : m + κ = 3
  ln : l.length = m + 1
  ex : σ.E κ (g / 8 ^ κ) = some x
  nb : σ.N κ (g / 8 ^ (κ + 1)) = some b
  sq : Sq w 61 1 (.slice (some ⟨vb, 0, none⟩) (m + 1) cap) l.length (pl l)
  vB : B ≤ vb
  lst : w.cell? ⟨vb, m, none⟩ = some (.pointer (some ⟨b, 0, none⟩))
theorem Fd.below {σ : St} {g : Nat} {w w' : World} {B κ m : Nat} {l : List Nat} {b x vb cap : Nat} (h : Fd σ g w B κ m l b x vb cap) (hb : Below w.heap.size w w') : Fd σ g w' B κ m l b x vb cap :=
  ⟨h.at_, h.mq, h.ln, h.ex, h.nb, h.sq.below hb, h.vB, cell_keep hb h.lst⟩
/-- No entry for a page. -/
def Nf (σ : St) (g : Nat) : Prop := σ.N 3 0 = none ∨ ∃ κ l, At σ g κ l ∧ σ.E κ (g / 8 ^ κ) = none
theorem find_nil (page : Int) (w : World) : Calls Try.prog 32 #[.pointer none, .int .i64 page] w fun e w' => e = .returned (.tuple #[.slice none 0 0, .int .i64 0, .int .i64 1]) ∧ w = w' := by
  go_enter Try.func32, Try.ntmps32
  go_wp2
  go_returns
  exact ⟨rfl, rfl⟩
theorem find_out (page : Int) (t : Nat) (w : World) (h : ¬ (0 ≤ page ∧ page < 4096)) : Calls Try.prog 32 #[.pointer (some ⟨t, 0, none⟩), .int .i64 page] w fun e w' => e = .returned (.tuple #[.slice none 0 0, .int .i64 0, .int .i64 3]) ∧ w = w' := by
  have HI := Lib.hid (is_any page w)
  rw [decide_eq_false h] at HI
  clear h
  go_enter Try.func32, Try.ntmps32
  go_wp2_with (go_at_call 43; refine HI.out.mono ?_; rintro e w1 ⟨rfl, rfl⟩)
  go_returns
  exact ⟨rfl, rfl⟩
set_option maxHeartbeats 2000000 in
theorem find_any (g t : Nat) (σ : St) (many nodes : Int) (F : List Nat) (w : World) (hg : g < 4096) (h : Hp w t σ many nodes F) :
    Calls Try.prog 32 #[.pointer (some ⟨t, 0, none⟩), .int .i64 (g : Nat)] w fun e w' => Below w.heap.size w w' ∧ ((Nf σ g ∧ e = .returned (.tuple #[.slice none 0 0, .int .i64 0, .int .i64 6])) ∨
      ∃ κ m l b x vb cap, Fd σ g w' w.heap.size κ m l b x vb cap ∧ e = .returned (.tuple #[.slice (some ⟨vb, 0, none⟩) (m + 1) cap, .int .i64 (κ : Nat), .int .i64 0])) := by
  have HH := Lib.hid h
  have HI := Lib.hid (is_any (g : Nat) w)
  rw [decide_eq_true (by omega : (0 : Int) ≤ ((g : Nat) : Int) ∧ ((g : Nat) : Int) < 4096)] at HI
  clear h
  go_enter Try.func32, Try.ntmps32
  go_wp2_with fail
  refine HI.out.mono ?_
  rintro e w1 ⟨rfl, rfl⟩
  go_wp2_with fail
  refine (path_any g t σ many nodes F w hg HH.out).mono ?_
  rintro e w2 ⟨hb2, he⟩
  rcases he with ⟨hn, rfl⟩ | ⟨κ, l, v, hκ, hl, hnd, hbel, hsq, hv, rfl⟩
  · have HB := Lib.hid (And.intro hb2 hn)
    clear hb2 hn
    go_upto_region 6 with fail
    go_quiet (fail)
    go_wp2_with fail
    go_returns
    exact ⟨below_drewN HB.out.1 nq, .inl ⟨.inl HB.out.2, rfl⟩⟩
  · have hA : At σ g κ l := ⟨hκ, hl, hnd, hbel⟩
    obtain ⟨b, hb, hlb⟩ := hA.last
    obtain ⟨vb, cap, rfl, hc⟩ := one_cell hsq hlb
    have H2 := HH.out.below hb2
    have hs8 : g / 8 ^ κ % 8 < 8 := by omega
    have hcell := H2.ecell hb hs8
    rw [bel_eq] at hcell
    have HB := Lib.hid (And.intro hA (And.intro hb2 (And.intro hsq (And.intro (hv vb (by simp [vblk_some])) (And.intro hb hc)))))
    have HS := Lib.hid (fun n => (slot_any g κ hg hκ (w2.drewN n)).mono fun _ _ h => (⟨h.1, h.2.symm⟩ : _ ∧ _))
    clear hA hb2 hsq hv hnd hbel H2
    generalize hq : g / 8 ^ κ = q at *
    generalize hs : q % 8 = s at *
    obtain ⟨m, hm⟩ : ∃ m, 3 - κ = m := ⟨_, rfl⟩
    have hm3 : m ≤ 3 := by omega
    have hlm : l.length = m + 1 := by omega
    rw [hm, hlm] at HB
    rw [hm] at hc
    rw [hlm]
    have p0 : ¬ (((m : Nat) : Int) + 1 = 0) := by omega
    have p1 : IntKind.i64.wrap ((m : Nat) : Int) = ((m : Nat) : Int) := by rw [IntKind.wrap_i64]; omega
    have p2 : ((m : Nat) : Int) < ((m : Nat) : Int) + 1 := by omega
    have p3 : (((m : Nat) : Int) + 1 == 0) = false := by rw [beq_eq_false_iff_ne]; exact p0
    have h1 : ((s : Nat) : Int) < 8 := by omega
    cases hE : σ.E κ q with
    | none =>
      rw [hE] at hcell
      have hcell' : w2.cell? ⟨b, 8 + s, none⟩ = some (.pointer none) := hcell
      clear hcell
      go_upto_region 6 with fail
      go_quiet ((go_at_call 33; exact Calls.quiet_of_same (HS.out _)))
      have HE := Lib.hid hE
      clear hE
      go_wp2_with fail
      go_returns
      exact ⟨below_drewN HB.out.2.1 nq, .inl ⟨.inr ⟨κ, l, HB.out.1, by rw [hq]; exact HE.out⟩, rfl⟩⟩
    | some x =>
      rw [hE] at hcell
      have hcell' : w2.cell? ⟨b, 8 + s, none⟩ = some (.pointer (some ⟨x, 0, none⟩)) := hcell
      clear hcell
      go_upto_region 6 with fail
      go_quiet ((go_at_call 33; exact Calls.quiet_of_same (HS.out _)))
      have HE := Lib.hid hE
      clear hE
      go_wp2_with fail
      go_returns
      exact ⟨below_drewN HB.out.2.1 nq, .inr ⟨κ, m, l, b, x, vb, cap, ⟨HB.out.1, by omega, hlm, by rw [hq]; exact HE.out, HB.out.2.2.2.2.1, by rw [hlm]; exact HB.out.2.2.1.drewN nq, HB.out.2.2.2.1, HB.out.2.2.2.2.2⟩, rfl⟩⟩

set_option maxHeartbeats 2000000 in
theorem Change_none (g t : Nat) (v : Int) (σ : St) (many nodes : Int) (F : List Nat) (w : World) (hg : g < 4096) (h : Hp w t σ many nodes F) :
    Calls Try.prog 27 #[.pointer (some ⟨t, 0, none⟩), .int .i64 (g : Nat), .int .i64 v] w fun e w' => (Nf σ g ∧ e = .returned (.int .i64 6) ∧ Below w.heap.size w w') ∨
      ∃ κ x, (∃ l, At σ g κ l) ∧ σ.E κ (g / 8 ^ κ) = some x ∧ ((¬ (-1152921504606846976 ≤ v ∧ v ≤ 1152921504606846976) ∧ e = .returned (.int .i64 3) ∧ Below w.heap.size w w') ∨ (e = .returned (.int .i64 0) ∧ ∃ w1, Below w.heap.size w w1 ∧ w' = w1.setCell ⟨x, 0, none⟩ (.int .i64 v))) := by
  have HH := Lib.hid h
  go_enter Try.func27, Try.ntmps27
  go_wp2_with fail
  refine (find_any g t σ many nodes F w hg HH.out).mono ?_
  rintro e w2 ⟨hb2, he⟩
  rcases he with ⟨hn, rfl⟩ | ⟨κ, m, l, b, x, vb, cap, hf, rfl⟩
  · have HN := Lib.hid (And.intro hn hb2)
    clear hn hb2
    go_wp2_with fail
    go_ret
    exact .inl ⟨HN.out.1, rfl, HN.out.2⟩
  · by_cases hv : -1152921504606846976 ≤ v ∧ v ≤ 1152921504606846976
    · have HI := Lib.hid (small_any v w2)
      rw [decide_eq_true hv] at HI
      clear hv
      have H2 := Lib.hid (HH.out.below hb2)
      have HF := Lib.hid hf
      have hs8 : g / 8 ^ κ % 8 < 8 := by omega
      have hm3 : m ≤ 3 := by have := hf.mq; omega
      have hκ3 := hf.at_.le
      have HQ := Lib.hid (bel_eq (g := g) (k := κ))
      have hlst := hf.lst
      have hcell := H2.out.ecell hf.nb hs8
      rw [HQ.out, hf.ex] at hcell
      have hecell : w2.cell? ⟨b, 8 + g / 8 ^ κ % 8, none⟩ = some (.pointer (some ⟨x, 0, none⟩)) := hcell
      obtain ⟨hvc, hvf⟩ := H2.out.vcell hf.ex
      have HS := Lib.hid (fun W => (slot_any g κ hg hκ3 W).mono fun _ _ h => (⟨h.1, h.2.symm⟩ : _ ∧ _))
      have p0 : ¬ (((m : Nat) : Int) + 1 = 0) := by omega
      have p1 : IntKind.i64.wrap ((m : Nat) : Int) = ((m : Nat) : Int) := by rw [IntKind.wrap_i64]; omega
      have p2 : ((m : Nat) : Int) < ((m : Nat) : Int) + 1 := by omega
      have h1 : ((g / 8 ^ κ % 8 : Nat) : Int) < 8 := by omega
      have HB2 := Lib.hid hb2
      clear hcell hf hb2
      generalize hs : g / 8 ^ κ % 8 = s at *
      have HSS := Lib.hid hs
      clear hs
      go_wp2_with fail
      refine HI.out.mono ?_
      rintro e w3 ⟨rfl, rfl⟩
      go_upto_region 6 with fail
      go_still_tail 16, (by kernel_rfl)
      still_call (HS.out _)
      repeat still_step
      refine wpStill_nil ?_
      change wpList _ _ _ _ _ (World.drew _)
      have hvf' : ∀ (j : Nat), w2.drew.frozen? ⟨x, j, none⟩ = false := hvf
      have hvc' : w2.drew.cell? ⟨x, 0, none⟩ = _ := hvc
      go_wp2_with fail
      go_ret
      exact .inr ⟨κ, x, ⟨l, HF.out.at_⟩, HF.out.ex, .inr ⟨rfl, w2.drew, HB2.out.drew, rfl⟩⟩
    · have HI := Lib.hid (small_any v w2)
      rw [decide_eq_false hv] at HI
      have HN := Lib.hid (And.intro hf (And.intro hb2 hv))
      clear hf hb2 hv
      go_wp2_with fail
      refine HI.out.mono ?_
      rintro e w3 ⟨rfl, rfl⟩
      go_wp2_with fail
      go_ret
      exact .inr ⟨κ, x, ⟨l, HN.out.1.at_⟩, HN.out.1.ex, .inl ⟨HN.out.2.2, rfl, HN.out.2.1⟩⟩

end Go.Proofs.Ytdnnfoojdfmajaa
