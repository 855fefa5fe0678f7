/- Parts of the proofs of layer 6 (pick): contracts of its functions, and the laws' walks. -/
import Derived.Test.YtekkblhghbkdiaaProg
import Derived.WalkKit
import Derived.WalkSpells
import Derived.WalkLawsBesides
import Derived.BigQuiet
import Derived.Deep.QuietTactic
import Derived.Lib.Hide
import Derived.Deep.RegionHeld3
import Derived.Deep.DeepCutAuto
import Derived.KernelRfl
import Derived.Deep.OwnRows
import Derived.Laws.CopyOwn
import Derived.Laws.CopyRow
import Derived.StillTailTactics
import Derived.Deep.RegionLaw
import Derived.Test.YtekkblhghbkdiaaP4
import Derived.OwnWalk
import Derived.Maps.OwnSet
namespace Go.Proofs.Ytekkblhghbkdiaa
open Go.RowKit
set_option linter.unusedVariables false
set_option linter.unusedSimpArgs false

theorem wrap_pred {n : Nat} (h : 0 < n) (hm : n ≤ 5000) : IntKind.i64.wrap (((n : Nat) : Int) - 1) = (((n - 1 : Nat)) : Int) := by rw [IntKind.wrap_i64]; omega
/-- The last element falls. -/
theorem Told.shorter {e : TypeId} {w : World} {b n cap : Nat} {l : List E} (h : Told e w (.slice (some ⟨b, 0, none⟩) n cap) l) (hn : n = l.length) : Told e w (.slice (some ⟨b, 0, none⟩) (n - 1) cap) l.dropLast := by
  subst hn
  obtain ⟨h1, h2⟩ := h
  rcases h2 with ⟨hv, _⟩ | ⟨g, cap', cur, hv, h3, h4, h5, h6, h7, h8⟩
  · cases hv
  · cases hv
    refine ⟨by rw [rc_length, List.length_dropLast], .inr ⟨_, _, cur, by rw [List.length_dropLast], h3, h4, by rw [List.length_dropLast]; omega, h6, h7, ?_⟩⟩
    rw [List.length_dropLast]
    by_cases h0 : l.length = 0
    · have : l = [] := List.eq_nil_of_length_eq_zero h0
      subst this
      simp [rc]
    · have hr : rc l = rc l.dropLast ++ cs (l.getLast (fun e => h0 (by rw [e]; rfl))) := by
        conv => lhs; rw [← List.dropLast_concat_getLast (fun e => h0 (by rw [e]; rfl) : l ≠ []), rc_append, rc_one]
      have h9 : (cur.toList.take (l.length * 2)).take ((l.length - 1) * 2) = rc l.dropLast := by
        rw [h8, hr, List.take_append_of_le_length (by rw [rc_length, List.length_dropLast]; omega), List.take_of_length_le (by rw [rc_length, List.length_dropLast]; omega)]
      rw [← h9, List.take_take, Nat.min_eq_left (by omega)]
theorem wpList_mxdrop (w : World) {ops : Array Oper} {rest : List Oper} {o : Oper} {a : Act} {Q : Exit → Act → World → Prop} (hg : o.guard = none) (m x : Operand)
    (hop : o.op = Op.call { callee := Callee.builtin Builtin.delete, args := #[m, x], argTypes := #[50, 3] }) (b n : Nat) (φ : Int → Option Int) (h : MX w b n φ) (f : Int) (hm : a.eval m = .map (some b)) (hx : a.eval x = .int .i64 f) (hf : wf f)
    (hK : ∀ w', MX w' b (if (φ f).isSome then n - 1 else n) (upd φ f none) → Chg [b] [b] w w' → wpList Try.prog ops Q rest (a.put o.dst (.tuple #[])) w') :
    wpList Try.prog ops Q (o :: rest) a w := by
  refine wpList_plain hg fun K' hK' => ?_
  obtain ⟨w', hrun, r1, r2⟩ := h.drop hf o.type
  unfold Oper.wp
  simp [execOp, hop, resolve, invoke, builtin, hm, hx, hrun, Result.andThen]
  exact hK' _ _ (hK w' r1 (mapTurned_chg r2))
set_option maxHeartbeats 2000000 in
theorem pop_any (p : Nat) (F : List Nat) (L : List E) (n : Nat) (φ : Int → Option Int) (x : E) (w : World) (h : Pq w p F (L ++ [x]) n φ) (hf : wf x.f) (hm : L.length ≤ 4000) (hs : (φ x.f).isSome = true) :
    Calls Try.prog 47 #[.pointer (some ⟨p, 0, none⟩)] w fun e w' => e = .returned (.iface 54 (.agg #[.int .i64 x.f, .int .i64 x.w])) ∧ Chg F F w w' ∧ Pq w' p F L (n - 1) (upd φ x.f none) := by
  obtain ⟨ao, cap, b, c0, c1, c2, fz, ht, hmx, hp, hF, hpb, hpv, hbv⟩ := h.cells
  have hlen : (L ++ [x]).length = L.length + 1 := by simp
  have HTT := Lib.hid ht
  rw [hlen] at c0 hp hF hpv hbv
  obtain ⟨bk, cap', hv, hnc, hcm, hb, hcell, hff⟩ := ht.read (by simp)
  rw [hlen] at hv
  cases hv
  have ht := HTT.out
  rw [hlen] at ht
  obtain ⟨i0, i1⟩ := hcell L.length x (by simp)
  have hsh := ht.shorter (by simp)
  rw [List.dropLast_concat] at hsh
  rw [Nat.add_sub_cancel] at hsh
  have hw1 : IntKind.i64.wrap (((L.length + 1 : Nat) : Int) - 1) = ((L.length : Nat) : Int) := wrap_pred (by omega) (by omega)
  have hw2 : IntKind.i64.wrap ((L.length : Nat) : Int) = ((L.length : Nat) : Int) := by rw [IntKind.wrap_i64]; omega
  have hiI : ((L.length : Nat) : Int) < ((L.length + 1 : Nat) : Int) := by omega
  have hcI : ((L.length : Nat) : Int) ≤ ((cap : Nat) : Int) := by omega
  clear hcell hff h hlen ht HTT
  go_enter Try.func47, Try.ntmps47
  go_upto_region 1 with fail
  have hA : Below w.heap.size w (w.alloc (.cells #[.int .i64 0, .int .i64 0] 54)) := (Below.refl _ _).alloc (Nat.le_refl _) _
  have hzz := heap_alloc_new w (.cells #[.int .i64 0, .int .i64 0] 54)
  have z0 : (w.alloc (.cells #[.int .i64 0, .int .i64 0] 54)).cell? ⟨w.heap.size, 0, none⟩ = some (.int .i64 0) := cell_of_row _ w.heap.size 0 _ 54 _ hzz
  have z1 : (w.alloc (.cells #[.int .i64 0, .int .i64 0] 54)).cell? ⟨w.heap.size, 1, none⟩ = some (.int .i64 0) := cell_of_row _ w.heap.size 1 _ 54 _ hzz
  have zf : ∀ j, (w.alloc (.cells #[.int .i64 0, .int .i64 0] 54)).frozen? ⟨w.heap.size, j, none⟩ = false := fun j => frozen_of_row _ w.heap.size j _ 54 hzz
  have c0A := cell_keep hA c0
  have i0A := cell_keep hA i0
  have i1A := cell_keep hA i1
  clear hA hzz
  go_region
  have hb5 : Below w.heap.size w (w.alloc (.cells #[.int .i64 x.f, .int .i64 x.w] 54)).drew := ((Below.refl _ _).alloc (Nat.le_refl _) _).drew
  have hx5 : (w.alloc (.cells #[.int .i64 x.f, .int .i64 x.w] 54)).drew.heap[w.heap.size]? = _ := heap_alloc_new w (.cells #[.int .i64 x.f, .int .i64 x.w] 54)
  clear z0 z1 zf c0 i0 i1 c0A i0A i1A c1 c2 fz
  generalize (w.alloc (.cells #[.int .i64 x.f, .int .i64 x.w] 54)).drew = w5 at *
  have hp5 := (hb5.block _ (lt_of_block hp)).trans hp
  have hm5 := hmx.of_block (hb5.block _ hmx.lt)
  have ht5 := Told.below hsh hb5
  have hBl := lt_of_block hx5
  have hpB : p ≠ w.heap.size := fun e => by have := lt_of_block hp; omega
  have hbB : b ≠ w.heap.size := fun e => by have := hmx.lt; omega
  have hkB : bk ≠ w.heap.size := fun e => by omega
  have hbelow : ∀ F', Chg F' F' w w5 := fun F' => Chg.of_below hb5
  have HBF := Lib.hid (hbelow F)
  clear hbelow
  clear hb5 hp hmx hsh hb
  generalize w.heap.size = B at *
  have c0 : w5.cell? ⟨p, 0, none⟩ = some (.slice (some ⟨bk, 0, none⟩) (L.length + 1) cap) := cell_of_row w5 p 0 _ 59 _ hp5
  have fz := fun j => frozen_of_row w5 p j _ 59 hp5
  go_upto_region 2 with fail
  go_still_tail 14, (by kernel_rfl)
  change wpList _ _ _ _ _ (World.drew _)
  go_upto_region 3 with fail
  have hp6 : (w5.setCell ⟨p, 0, none⟩ (.slice (some ⟨bk, 0, none⟩) L.length cap)).drew.heap[p]? = some (.cells #[.slice (some ⟨bk, 0, none⟩) L.length cap, .map (some b), lsV] 59 (0, 0)) := (heap_setCell_same w5 p 0 _ 59 _ hp5).trans rfl
  have hoth : ∀ y, y ≠ p → (w5.setCell ⟨p, 0, none⟩ (.slice (some ⟨bk, 0, none⟩) L.length cap)).drew.heap[y]? = w5.heap[y]? := fun y hy => Below.heap_setCell _ _ _ _ (fun e => hy e)
  have hm6 := hm5.of_block (hoth b (Ne.symm hpb))
  have hx6 := (hoth B (Ne.symm hpB)).trans hx5
  have hpk : bk ≠ p := fun e => hpv (by simp [vblk_some, e])
  have hbk : bk ≠ b := fun e => hbv (by simp [vblk_some, e])
  have ht6 := ht5.of_blocks (w' := (w5.setCell ⟨p, 0, none⟩ (.slice (some ⟨bk, 0, none⟩) L.length cap)).drew) (fun y hy => hoth y (by simp [vblk_some] at hy; rw [hy]; exact hpk))
  have hc6 : Chg [p] [p] w5 (w5.setCell ⟨p, 0, none⟩ (.slice (some ⟨bk, 0, none⟩) L.length cap)).drew := ((Chg.refl [p] w5).setCell _ _ _ (by simp)).drew
  clear c0 fz hp5 hm5 ht5 hx5 hoth hBl
  generalize (w5.setCell ⟨p, 0, none⟩ (.slice (some ⟨bk, 0, none⟩) L.length cap)).drew = w6 at *
  have c1 : w6.cell? ⟨p, 1, none⟩ = some (.map (some b)) := cell_of_row w6 p 1 _ 59 _ hp6
  have x0 : w6.cell? ⟨B, 0, none⟩ = some (.int .i64 x.f) := cell_of_row w6 B 0 _ 54 _ hx6
  have hm6d : MX w6.drew b n φ := hm6
  go_still_tail 6, (by kernel_rfl)
  change wpList _ _ _ _ _ (World.drew _)
  refine wpList_mxdrop _ rfl (.tmp 33) (.tmp 35) rfl b n φ hm6d x.f rfl rfl hf ?_
  intro w7 hm7 hc7
  replace hc7 : Chg [b] [b] w6 w7 := hc7
  have hp7 := (hc7.block (lt_of_block hp6) (by simpa using hpb)).trans hp6
  have hx7 := (hc7.block (lt_of_block hx6) (by simpa using Ne.symm hbB)).trans hx6
  have ht7 := ht6.chg hc7 (fun y hy hm => by simp [vblk_some] at hy; simp at hm; exact hbk (hy.symm.trans hm))
  have y0 : w7.cell? ⟨B, 0, none⟩ = some (.int .i64 x.f) := cell_of_row w7 B 0 _ 54 _ hx7
  have y1 : w7.cell? ⟨B, 1, none⟩ = some (.int .i64 x.w) := cell_of_row w7 B 1 _ 54 _ hx7
  rw [hs, if_pos rfl] at hm7
  have HM := Lib.hid (And.intro hm7 (And.intro hc7 (And.intro hc6 (And.intro ht7 hp7))))
  clear hm7 hc7 hc6 ht7 hp7 hm6 hm6d ht6 hx6 hx7 hp6 c1 x0
  go_wp2_with fail
  go_ret
  refine ⟨rfl, ?_, _, b, HM.out.2.2.2.2, HM.out.2.2.2.1, HM.out.1, hF, hpb, hpv, hbv⟩
  have e1 : Chg F F w w5 := HBF.out
  exact (e1.trans (HM.out.2.2.1.frame (by rw [hF]; simp) (fun _ h => .inr h))).trans (HM.out.2.1.frame (by rw [hF]; simp) (fun _ h => .inr h))

end Go.Proofs.Ytekkblhghbkdiaa
