/- Parts of the proofs of layer 19 (radix): contracts of its functions, and the laws' walks. -/
import Derived.Test.YtdnnfoojdfmajaaProg
import Derived.WalkKit
import Derived.WalkSpells
import Derived.WalkLawsBesides
import Derived.BigQuiet
import Derived.Deep.QuietTactic
import Derived.Lib.Hide
import Derived.Deep.RegionHeld3
import Derived.Deep.DeepCutAuto
import Derived.KernelRfl
import Derived.Deep.OwnRows
import Derived.Laws.CopyOwn
import Derived.Laws.CopyRow
import Derived.StillTailTactics
import Derived.Deep.RegionLaw
import Derived.Handy
import Derived.Deep.CutRange
import Derived.Deep.CutBlock
import Derived.Test.YtdnnfoojdfmajaaR11
import Derived.Test.YtdnnfoojdfmajaaA13
namespace Go.Proofs.Ytdnnfoojdfmajaa
open Go.RowKit
set_option linter.unusedVariables false
set_option linter.unusedSimpArgs false

theorem kx_div {y : X} {n : Nat} : (kx y n).1 / 8 ^ (n + 1) = y.p / 8 ^ (n + 1) ∧ (kx y n).1 = y.p / 8 ^ (n + 1) * 8 ^ (n + 1) := by
  have h := Nat.div_add_mod y.p (8 ^ (n + 1))
  have hp : 0 < 8 ^ (n + 1) := Nat.pow_pos (by decide)
  have e : (kx y n).1 = 8 ^ (n + 1) * (y.p / 8 ^ (n + 1)) := by
    show y.p - y.p % 8 ^ (n + 1) = _
    omega
  exact ⟨by rw [e, Nat.mul_div_cancel_left _ hp], by rw [e, Nat.mul_comm]⟩
theorem cnt_nodes {σ : St} {L : List X} {o : List (Nat × Nat)} (hab : Ab σ L) (hg : Good L) (hl : L ≠ []) (ho : Out L L.length 3 o) : cntN σ.N = o.length + 1 := by
  obtain ⟨hn, hm⟩ := ho.fin
  have hk : ∀ b, b ∈ o → b.2 ≤ 2 ∧ b.1 = b.1 / 8 ^ (b.2 + 1) * 8 ^ (b.2 + 1) := fun b hb => by
    obtain ⟨y, hy, n, h1, h2, rfl⟩ := (hm b).1 hb
    exact ⟨h2, by
      show (kx y n).1 = (kx y n).1 / 8 ^ (n + 1) * 8 ^ (n + 1)
      rw [kx_div.1]
      exact kx_div.2⟩
  have hBn : ((3, 0) :: o.map fun b => (b.2, b.1 / 8 ^ (b.2 + 1)) : List (Nat × Nat)).Nodup := by
    rw [List.nodup_cons]
    refine ⟨fun h => ?_, ?_⟩
    · obtain ⟨b, hb, e⟩ := List.mem_map.1 h
      have := (hk b hb).1
      have e2 : b.2 = 3 := congrArg Prod.fst e
      omega
    · have : ∀ l : List (Nat × Nat), l.Nodup → (∀ b, b ∈ l → b ∈ o) → (l.map fun b => (b.2, b.1 / 8 ^ (b.2 + 1))).Nodup := by
        intro l
        induction l with
        | nil => intro _ _; exact List.nodup_nil
        | cons c l ih =>
          intro hl hs
          rw [List.nodup_cons] at hl
          rw [List.map_cons, List.nodup_cons]
          refine ⟨fun h => ?_, ih hl.2 fun b hb => hs b (by simp [hb])⟩
          obtain ⟨b, hb, e⟩ := List.mem_map.1 h
          have e1 : b.2 = c.2 := congrArg Prod.fst e
          have e2 : b.1 / 8 ^ (b.2 + 1) = c.1 / 8 ^ (c.2 + 1) := congrArg Prod.snd e
          have h1 := (hk b (hs b (by simp [hb]))).2
          have h2 := (hk c (hs c (by simp))).2
          have : b = c := Prod.ext (by rw [h1, h2, e2, e1]) e1
          exact hl.1 (this ▸ hb)
      exact this o hn fun _ h => h
  have hAn : (allN.filter fun x => (σ.N x.1 x.2).isSome).Nodup := allN_nodup.sublist List.filter_sublist
  have hperm : (allN.filter fun x => (σ.N x.1 x.2).isSome).Perm ((3, 0) :: o.map fun b => (b.2, b.1 / 8 ^ (b.2 + 1))) := by
    rw [List.perm_ext_iff_of_nodup hAn hBn]
    rintro ⟨k, p⟩
    rw [List.mem_filter, allN_mem, Option.isSome_iff_exists, hab.n, List.mem_cons, List.mem_map]
    constructor
    · rintro ⟨⟨h1, h2⟩, _, y, hy, h3, h4⟩
      by_cases e : k = 3
      · subst e
        left
        have := (hg.1 y hy).lt
        have : p < 8 ^ (3 - 3) := h2
        simp at this
        rw [this]
      · right
        refine ⟨kx y k, (hm _).2 ⟨y, hy, k, h3, by omega, rfl⟩, ?_⟩
        show (k, (kx y k).1 / 8 ^ (k + 1)) = (k, p)
        rw [kx_div.1, h4]
    · rintro (h | ⟨b, hb, e⟩)
      · cases h
        obtain ⟨y, hy⟩ := List.exists_mem_of_ne_nil L hl
        have h1 := (hg.1 y hy).lt
        have h2 := (hg.1 y hy).1
        exact ⟨⟨by omega, by decide⟩, by omega, y, hy, by omega, by show y.p / 4096 = 0; omega⟩
      · obtain ⟨y, hy, n, h1, h2, rfl⟩ := (hm b).1 hb
        have e1 : n = k := congrArg Prod.fst e
        subst e1
        have e2 : (kx y n).1 / 8 ^ (n + 1) = p := congrArg Prod.snd e
        rw [kx_div.1] at e2
        subst e2
        exact ⟨⟨by omega, path_lt (hg.1 y hy).lt (by omega)⟩, by omega, y, hy, h1, rfl⟩
  unfold cntN
  rw [List.countP_eq_length_filter, hperm.length_eq]
  simp
theorem cnt_none {σ : St} (hab : Ab σ []) : cntN σ.N = 0 := by
  unfold cntN
  rw [List.countP_eq_zero]
  rintro ⟨k, p⟩ _ h
  obtain ⟨b, hb⟩ := Option.isSome_iff_exists.1 h
  obtain ⟨_, y, hy, _⟩ := (hab.n k p).1 ⟨b, hb⟩
  simp at hy

end Go.Proofs.Ytdnnfoojdfmajaa
