/- Rows of cells that an object owns: footprints, what a step changes, appends. Plain theorems. -/
import Derived.WalkKit
import Derived.Lib.Hide
import Derived.Laws.OwnMore
import Derived.ArgAppend
import Derived.Deep.Draws
import Derived.OwnWalkIn
namespace Go.Proofs.Ytdnnfoojdfmajaa
open Go.RowKit
/-- The block of a slice. -/
def vblk (v : Value) : List Nat := v.ownBlock.toList
theorem vblk_nil : vblk (.slice none 0 0) = [] := rfl
theorem vblk_some (b o n c : Nat) : vblk (.slice (some ⟨b, o, none⟩) n c) = [b] := rfl
/-- w' is w, but for the blocks F and what is new; F' lies in F and in what is new. -/
def Chg (F F' : List Nat) (w w' : World) : Prop := w'.os = w.os ∧ w'.tape = w.tape ∧ w'.output = w.output ∧ w.heap.size ≤ w'.heap.size ∧ (∀ b, b < w.heap.size → b ∉ F → w'.heap[b]? = w.heap[b]?) ∧ ∀ b, b ∈ F' → b ∈ F ∨ w.heap.size ≤ b
theorem Chg.refl (F : List Nat) (w : World) : Chg F F w w := ⟨rfl, rfl, rfl, Nat.le_refl _, fun _ _ _ => rfl, fun _ h => .inl h⟩
theorem Chg.size {F F' : List Nat} {w w' : World} (h : Chg F F' w w') : w.heap.size ≤ w'.heap.size := h.2.2.2.1
theorem Chg.trans {F F1 F2 : List Nat} {a b c : World} (h : Chg F F1 a b) (k : Chg F1 F2 b c) : Chg F F2 a c := by
  obtain ⟨h1, h2, h3, h4, h5, h6⟩ := h
  obtain ⟨k1, k2, k3, k4, k5, k6⟩ := k
  refine ⟨k1.trans h1, k2.trans h2, k3.trans h3, Nat.le_trans h4 k4, fun x hx hf => ?_, fun x hx => ?_⟩
  · refine (k5 x (Nat.lt_of_lt_of_le hx h4) fun hm => ?_).trans (h5 x hx hf)
    rcases h6 x hm with h | h
    · exact hf h
    · omega
  · rcases k6 x hx with h | h
    · exact h6 x h
    · exact .inr (Nat.le_trans h4 h)
theorem Chg.mono {F F' G : List Nat} {w w' : World} (h : Chg F F' w w') (hs : ∀ b, b ∈ F → b ∈ G) : Chg G F' w w' := by
  obtain ⟨h1, h2, h3, h4, h5, h6⟩ := h
  exact ⟨h1, h2, h3, h4, fun b hb hg => h5 b hb fun hm => hg (hs b hm), fun b hb => (h6 b hb).imp (hs b) id⟩
theorem Chg.sub {F F' G : List Nat} {w w' : World} (h : Chg F F' w w') (hs : ∀ b, b ∈ G → b ∈ F') : Chg F G w w' := by
  obtain ⟨h1, h2, h3, h4, h5, h6⟩ := h
  exact ⟨h1, h2, h3, h4, h5, fun b hb => h6 b (hs b hb)⟩
theorem Chg.of_below {F : List Nat} {w w' : World} (h : Below w.heap.size w w') : Chg F F w w' := ⟨h.os, h.tape, h.output, h.size, fun b hb _ => h.block b hb, fun _ h => .inl h⟩
theorem Chg.below {F F' : List Nat} {w w' : World} {C : Nat} (h : Chg F F' w w') (hf : ∀ b, b ∈ F → C ≤ b) (hc : C ≤ w.heap.size) : Below C w w' :=
  ⟨h.1, h.2.1, h.2.2.1, h.2.2.2.1, fun b hb => h.2.2.2.2.1 b (Nat.lt_of_lt_of_le hb hc) fun hm => by have := hf b hm; omega⟩
theorem Chg.drew {F F' : List Nat} {w w' : World} (h : Chg F F' w w') : Chg F F' w w'.drew := h
theorem Chg.drewN {F F' : List Nat} {w w' : World} (h : Chg F F' w w') (k : Nat) : Chg F F' w (w'.drewN k) := h
theorem Chg.drew' {F F' : List Nat} {w w' : World} (h : Chg F F' w.drew w') : Chg F F' w w' := h
theorem Chg.drewN' {F F' : List Nat} {w w' : World} {k : Nat} (h : Chg F F' (w.drewN k) w') : Chg F F' w w' := h
theorem Chg.block {F F' : List Nat} {w w' : World} (h : Chg F F' w w') {b : Nat} (hb : b < w.heap.size) (hf : b ∉ F) : w'.heap[b]? = w.heap[b]? := h.2.2.2.2.1 b hb hf
theorem Chg.cell {F F' : List Nat} {w w' : World} (h : Chg F F' w w') {a : Addr} {u : Value} (hc : w.cell? a = some u) (hf : a.block ∉ F) : w'.cell? a = some u :=
  (World.cell?_of_block (h.block (World.block_lt_of_cell? w a hc) hf)).trans hc
theorem Chg.ge {F F' : List Nat} {w w' : World} {C : Nat} (h : Chg F F' w w') (hf : ∀ b, b ∈ F → C ≤ b) (hc : C ≤ w.heap.size) : ∀ b, b ∈ F' → C ≤ b := fun b hb => by
  rcases h.2.2.2.2.2 b hb with h | h
  · exact hf b h
  · omega
theorem Chg.cons {F F' : List Nat} {w w' : World} (h : Chg F F' w w') (g : Nat) : Chg (g :: F) (g :: F') w w' :=
  ⟨h.1, h.2.1, h.2.2.1, h.2.2.2.1, fun b hb hm => h.2.2.2.2.1 b hb fun h => hm (by simp [h]), fun b hb => by
    rcases List.mem_cons.1 hb with rfl | hb
    · exact .inl (by simp)
    · exact (h.2.2.2.2.2 b hb).imp (fun h => by simp [h]) id⟩
/-- Two footprints are apart. -/
def Sep (F G : List Nat) : Prop := ∀ b, b ∈ F → b ∉ G
theorem Sep.symm {F G : List Nat} (h : Sep F G) : Sep G F := fun b hb hg => h b hg hb
theorem Chg.sep {F F' G : List Nat} {w w' : World} (h : Chg F F' w w') (hs : Sep F G) (hg : ∀ b, b ∈ G → b < w.heap.size) : Sep F' G := fun b hb hm => by
  rcases h.2.2.2.2.2 b hb with h | h
  · exact hs b h hm
  · have := hg b hm; omega
theorem Sep.fresh {F G : List Nat} {n : Nat} (hf : ∀ b, b ∈ F → n ≤ b) (hg : ∀ b, b ∈ G → b < n) : Sep F G := fun b hb hm => by
  have := hf b hb
  have := hg b hm
  omega
/-- A row of n elements of sz cells each. -/
def Sq (w : World) (e : TypeId) (sz : Nat) (v : Value) (n : Nat) (xs : List Value) : Prop := w.ownsRow 0 e sz v n xs
theorem Sq.length {w : World} {e : TypeId} {sz : Nat} {v : Value} {n : Nat} {xs : List Value} (h : Sq w e sz v n xs) : xs.length = n * sz := h.1
theorem Sq.nil (w : World) (e : TypeId) (sz : Nat) : Sq w e sz (.slice none 0 0) 0 [] := World.ownsRow_nil w 0 e sz
theorem Sq.lt {w : World} {e : TypeId} {sz : Nat} {v : Value} {n : Nat} {xs : List Value} (h : Sq w e sz v n xs) : ∀ b, b ∈ vblk v → b < w.heap.size := fun b hb => (World.ownsRow.lt h b (by simpa [vblk] using hb)).2
theorem Sq.drew {w : World} {e : TypeId} {sz : Nat} {v : Value} {n : Nat} {xs : List Value} (h : Sq w e sz v n xs) : Sq w.drew e sz v n xs := h
theorem Sq.drewN {w : World} {e : TypeId} {sz : Nat} {v : Value} {n : Nat} {xs : List Value} (h : Sq w e sz v n xs) (k : Nat) : Sq (w.drewN k) e sz v n xs := h
theorem Sq.of_blocks {w w' : World} {e : TypeId} {sz : Nat} {v : Value} {n : Nat} {xs : List Value} (h : Sq w e sz v n xs) (hb : ∀ b, b ∈ vblk v → w'.heap[b]? = w.heap[b]?) : Sq w' e sz v n xs := by
  refine ⟨h.1, ?_⟩
  rcases h.2 with hn | ⟨g, cap, cur, rfl, h0, hg, rest⟩
  · exact .inl hn
  · exact .inr ⟨g, cap, cur, rfl, h0, (hb g (by simp [vblk_some])).trans hg, rest⟩
theorem Sq.chg {w w' : World} {e : TypeId} {sz : Nat} {v : Value} {n : Nat} {xs : List Value} {F F' : List Nat} (h : Sq w e sz v n xs) (hc : Chg F F' w w') (hs : Sep (vblk v) F) : Sq w' e sz v n xs :=
  h.of_blocks fun b hb => hc.block (h.lt b hb) (hs b hb)
theorem Sq.below {w w' : World} {e : TypeId} {sz : Nat} {v : Value} {n : Nat} {xs : List Value} (h : Sq w e sz v n xs) (hc : Below w.heap.size w w') : Sq w' e sz v n xs :=
  h.of_blocks fun b hb => hc.block b (h.lt b hb)
theorem Sq.slice {w : World} {e : TypeId} {sz : Nat} {v : Value} {n : Nat} {xs : List Value} (h : Sq w e sz v n xs) : ∃ ao cap, v = .slice ao n cap ∧ n ≤ cap ∧ cap ≤ maxLen := by
  rcases h.2 with ⟨rfl, rfl⟩ | ⟨g, cap, cur, rfl, h0, hg, h1, h2, _⟩
  · exact ⟨none, 0, rfl, Nat.le_refl _, Nat.zero_le _⟩
  · exact ⟨_, cap, rfl, h1, h2⟩
theorem Sq.cases {w : World} {e : TypeId} {sz : Nat} {v : Value} {n : Nat} {xs : List Value} (h : Sq w e sz v n xs) :
    (v = .slice none 0 0 ∧ n = 0) ∨ ∃ b cap, v = .slice (some ⟨b, 0, none⟩) n cap ∧ n ≤ cap ∧ cap ≤ maxLen ∧ b < w.heap.size ∧ (∀ j u, xs[j]? = some u → w.cell? ⟨b, j, none⟩ = some u) ∧ ∀ j, w.frozen? ⟨b, j, none⟩ = false := by
  rcases h.2 with hn | ⟨g, cap, cur, rfl, h0, hg, h1, h2, _⟩
  · exact .inl hn
  · refine .inr ⟨g, cap, rfl, h1, h2, h.lt g (by simp [vblk_some]), fun j u hj => ?_, fun j => World.ownsRow.frozenAt h j⟩
    have hlt : j < n * sz := by rw [← h.length]; exact (List.getElem?_eq_some_iff.1 hj).1
    exact (World.ownsRow.cellAt h j hlt).trans hj
theorem Sq.lit (w : World) (cs : Array Value) (e : TypeId) (sz n : Nat) (hm : n ≤ maxLen) (hs : cs.size = n * sz) : Sq (w.alloc (.cells cs e)) e sz (.slice (some ⟨w.heap.size, 0, none⟩) n n) n cs.toList :=
  World.ownsRow_lit w cs n (Nat.zero_le _) hm hs
theorem Sq.stored {w : World} {e : TypeId} {sz b n cap : Nat} {xs : List Value} (h : Sq w e sz (.slice (some ⟨b, 0, none⟩) n cap) n xs) (j : Nat) (u : Value) :
    Sq (w.setCell ⟨b, j, none⟩ u) e sz (.slice (some ⟨b, 0, none⟩) n cap) n (xs.set j u) := (World.ownsRow.stored h j u).1
theorem Chg.setCell {F F' : List Nat} {w w' : World} (h : Chg F F' w w') (b j : Nat) (u : Value) (hb : b ∈ F') : Chg F F' w (w'.setCell ⟨b, j, none⟩ u) :=
  h.trans ⟨rfl, rfl, rfl, by simp, fun k _ hk => Below.heap_setCell _ _ _ _ (fun e => hk (by simpa [e] using hb)), fun b hb => .inl hb⟩
theorem Chg.alloc {F F' : List Nat} {w w' : World} (h : Chg F F' w w') (o : Obj) : Chg F F' w (w'.alloc o) := h.trans (.of_below ((Below.refl _ _).alloc (Nat.le_refl _) o))
theorem Chg.of_grown {w w' : World} {v : Value} {F' : List Nat} (h : w.grownBy w' v.ownBlock) (hf : ∀ b, b ∈ F' → b ∈ vblk v ∨ w.heap.size ≤ b) : Chg (vblk v) F' w w' :=
  ⟨h.os, h.tape, h.output, h.size, fun b hb hm => h.block b hb fun e => hm (by simp [vblk, ← e]), hf⟩
section
variable {P : Program} (w : World)
/-- append, whatever there is room for; what is appended: nil, or cells that are there. -/
theorem run_append_any (t ty e : TypeId) (i : TypeInfo) (z : Value) (size bytes : Nat) (ht : P.underlying t = some (.slice e)) (hi : P.info? e = some i) (hz : i.zero = some z)
    (hsize : i.size = size) (hby : i.bytes = bytes) (hzs : z.cells.size = size) (hsz : 0 < size)
    (v : Value) (n : Nat) (xs : List Value) (hown : Sq w e size v n xs)
    (ao : Option Addr) (m c : Nat) (news : List Value) (hnone : ao = none → m = 0 ∧ c = 0) (hl : news.length = m * size) (hnews : ∀ a, ao = some a → ∀ j u, news[j]? = some u → w.cell? (a.add j) = some u) (h1 : ∀ u ∈ news, u.oneCell' = true)
    (h63 : n + m ≤ maxLen) (hbytes : (n + m) * bytes ≤ 140737488355328) :
    ∃ v' w', (Builtin.append_ #[t, t] ty #[v, .slice ao m c]).run P w = .ok v' w' ∧ Sq w' e size v' (n + m) (xs ++ news) ∧ Chg (vblk v) (vblk v') w w' := by
  cases ao with
  | none =>
    obtain ⟨rfl, rfl⟩ := hnone rfl
    obtain rfl : news = [] := List.eq_nil_of_length_eq_zero (by simpa using hl)
    refine ⟨v, w, run_append_owned_none (P := P) w 0 t ty e i size ht hi v n xs hown, ?_, Chg.refl _ _⟩
    rw [List.append_nil]
    exact hown
  | some a =>
    have hnew := hnews a rfl
    rcases hown.2 with ⟨rfl, rfl⟩ | ⟨g, cap, cur, rfl, h0, hg, hnc, hcm, hcs, ht'⟩
    · obtain ⟨v', w', hrun, r1, r2, _⟩ := run_append_own (P := P) w w.heap.size t ty e i z size bytes ht hi hz hsize hby hzs hsz (.slice none 0 0) 0 [] (World.ownsRow_nil w _ e size) a m c news hl hnew h1 h63 hbytes (Nat.le_refl _)
      obtain rfl : xs = [] := List.eq_nil_of_length_eq_zero (by simpa using hown.1)
      refine ⟨v', w', hrun, ⟨r1.1, ?_⟩, Chg.of_grown r2 fun b hb => ?_⟩
      · rcases r1.2 with hn | ⟨g, cap, cur, rfl, q0, q⟩
        · exact .inl hn
        · exact .inr ⟨g, cap, cur, rfl, Nat.zero_le _, q⟩
      · exact .inr (World.ownsRow.lt r1 b (by simpa [vblk] using hb)).1
    · by_cases hroom : n + m ≤ cap
      · obtain ⟨w', hrun, r1, r2⟩ := run_append_fits (P := P) w 0 t ty e i size ht hi hsize g n cap xs hown a m c news hl hnew h1 hroom
        exact ⟨_, w', hrun, r1, Chg.of_grown r2 fun b hb => .inl hb⟩
      · obtain ⟨v', w', hrun, r1, r2⟩ := run_append_arg_grows (P := P) w t ty e i z size bytes ht hi hz hsize hby hzs hsz ⟨g, 0, none⟩ n cap xs hown.1 (fun j u hj => by
            have hlt : j < n * size := by rw [← hown.1]; exact (List.getElem?_eq_some_iff.1 hj).1
            rw [Addr.add_lit, Nat.zero_add]
            exact (World.ownsRow.cellAt hown j hlt).trans hj) a m c news hl hnew (by omega) h63 hbytes
        refine ⟨v', w', hrun, ⟨r1.1, ?_⟩, ?_⟩
        · rcases r1.2 with hn | ⟨g', cap', cur', rfl, q0, q⟩
          · exact .inl hn
          · exact .inr ⟨g', cap', cur', rfl, Nat.zero_le _, q⟩
        · exact ⟨r2.os, r2.tape, r2.output, r2.size, fun b hb _ => r2.block b hb (by simp), fun b hb => .inr (World.ownsRow.lt r1 b (by simpa [vblk] using hb)).1⟩
theorem wpList_append_any {ops : Array Oper} {rest : List Oper} {o : Oper} {a : Act} {Q : Exit → Act → World → Prop} (hgd : o.guard = none) (s x : Operand) (t : TypeId)
    (ho : o.op = .call { callee := .builtin .append, args := #[s, x], argTypes := #[t, t] })
    (e : TypeId) (i : TypeInfo) (z : Value) (size bytes : Nat) (ht : P.underlying t = some (.slice e)) (hi : P.info? e = some i) (hz : i.zero = some z)
    (hsize : i.size = size) (hby : i.bytes = bytes) (hzs : z.cells.size = size) (hsz : 0 < size)
    (v : Value) (n : Nat) (xs : List Value) (hs : a.eval s = v) (hown : Sq w e size v n xs)
    (ao : Option Addr) (m c : Nat) (news : List Value) (hx : a.eval x = .slice ao m c) (hnone : ao = none → m = 0 ∧ c = 0) (hl : news.length = m * size) (hnews : ∀ a, ao = some a → ∀ j u, news[j]? = some u → w.cell? (a.add j) = some u) (h1 : ∀ u ∈ news, u.oneCell' = true)
    (h63 : n + m ≤ maxLen) (hbytes : (n + m) * bytes ≤ 140737488355328)
    (h : ∀ v' w', Sq w' e size v' (n + m) (xs ++ news) → Chg (vblk v) (vblk v') w w' → wpList P ops Q rest (a.put o.dst v') w') : wpList P ops Q (o :: rest) a w := by
  refine wpList_plain hgd fun K hK => ?_
  obtain ⟨v', w', hrun, r1, r2⟩ := run_append_any (P := P) w t o.type e i z size bytes ht hi hz hsize hby hzs hsz v n xs hown ao m c news hnone hl hnews h1 h63 hbytes
  unfold Oper.wp
  simp [execOp, ho, resolve, invoke, builtin, hs, hx, hrun, Result.andThen]
  exact hK _ _ (h v' w' r1 r2)
/-- At a step of a region that draws its order. -/
theorem step_append_any {ops : Array Oper} {o : Oper} {a : Act} {K : Act → World → Prop} {Q : Exit → Act → World → Prop} {E : Prop} (hgd : o.guard = none) (s x : Operand) (t : TypeId)
    (ho : o.op = .call { callee := .builtin .append, args := #[s, x], argTypes := #[t, t] })
    (e : TypeId) (i : TypeInfo) (z : Value) (size bytes : Nat) (ht : P.underlying t = some (.slice e)) (hi : P.info? e = some i) (hz : i.zero = some z)
    (hsize : i.size = size) (hby : i.bytes = bytes) (hzs : z.cells.size = size) (hsz : 0 < size)
    (v : Value) (n : Nat) (xs : List Value) (hs : a.eval s = v) (hown : Sq w e size v n xs)
    (ao : Option Addr) (m c : Nat) (news : List Value) (hx : a.eval x = .slice ao m c) (hnone : ao = none → m = 0 ∧ c = 0) (hl : news.length = m * size) (hnews : ∀ a, ao = some a → ∀ j u, news[j]? = some u → w.cell? (a.add j) = some u) (h1 : ∀ u ∈ news, u.oneCell' = true)
    (h63 : n + m ≤ maxLen) (hbytes : (n + m) * bytes ≤ 140737488355328)
    (h : ∀ v' w', Sq w' e size v' (n + m) (xs ++ news) → Chg (vblk v) (vblk v') w w' → K (a.put o.dst v') w') :
    if Region.wanted o (yielded ops a.tmps) = true then Oper.wp P o a w K Q else E := by
  have hw : Region.wanted o (yielded ops a.tmps) = true := by simp [Region.wanted, hgd]
  rw [if_pos hw]
  obtain ⟨v', w', hrun, r1, r2⟩ := run_append_any (P := P) w t o.type e i z size bytes ht hi hz hsize hby hzs hsz v n xs hown ao m c news hnone hl hnews h1 h63 hbytes
  unfold Oper.wp
  simp [execOp, ho, resolve, invoke, builtin, hs, hx, hrun, Result.andThen]
  exact h v' w' r1 r2
/-- At a step of a region that draws its order, inside a fence. -/
theorem step_append_any_in {F : Fence} {N : Nat} {ops : Array Oper} {o : Oper} {a : Act} {K : Act → World → Prop} {Q : Exit → Act → World → Prop} {E : Prop} (hgd : o.guard = none) (s x : Operand) (t : TypeId)
    (ho : o.op = .call { callee := .builtin .append, args := #[s, x], argTypes := #[t, t] })
    (e : TypeId) (i : TypeInfo) (z : Value) (size bytes : Nat) (ht : P.underlying t = some (.slice e)) (hi : P.info? e = some i) (hz : i.zero = some z)
    (hsize : i.size = size) (hby : i.bytes = bytes) (hzs : z.cells.size = size) (hsz : 0 < size)
    (v : Value) (n : Nat) (xs : List Value) (hs : a.eval s = v) (hown : Sq w e size v n xs)
    (ao : Option Addr) (m c : Nat) (news : List Value) (hx : a.eval x = .slice ao m c) (hnone : ao = none → m = 0 ∧ c = 0) (hl : news.length = m * size) (hnews : ∀ a, ao = some a → ∀ j u, news[j]? = some u → w.cell? (a.add j) = some u) (h1 : ∀ u ∈ news, u.oneCell' = true)
    (h63 : n + m ≤ maxLen) (hbytes : (n + m) * bytes ≤ 140737488355328)
    (h : ∀ v' w', Sq w' e size v' (n + m) (xs ++ news) → Chg (vblk v) (vblk v') w w' → K (a.put o.dst v') w') :
    if Region.wanted o (yielded ops a.tmps) = true then Oper.wpIn F N P o a w K Q else E := by
  have hw : Region.wanted o (yielded ops a.tmps) = true := by simp [Region.wanted, hgd]
  rw [if_pos hw]
  obtain ⟨v', w', hrun, r1, r2⟩ := run_append_any (P := P) w t o.type e i z size bytes ht hi hz hsize hby hzs hsz v n xs hown ao m c news hnone hl hnews h1 h63 hbytes
  unfold Oper.wpIn
  refine ⟨?_, ?_⟩
  · simp [Oper.about, ho, resolve, Target.leads, Sem.run_pure]
  · rw [Oper.semAt_eq _ _ _ (by rw [ho]; intro c hc'; cases hc')]
    simp [execOp, ho, resolve, invoke, builtin, hs, hx, hrun, Result.andThen]
    exact h v' w' r1 r2
end
/-- Elements of sz cells each, in a row. -/
theorem flat_get {α : Type} (f : α → List Value) (sz : Nat) (hf : ∀ a, (f a).length = sz) : ∀ (l : List α) (i j : Nat), j < sz → (l.flatMap f)[i * sz + j]? = (l[i]?).bind fun a => (f a)[j]?
  | [], i, j, h => by simp
  | a :: l, 0, j, h => by
    rw [List.flatMap_cons, List.getElem?_append_left (by rw [hf]; omega)]
    simp
  | a :: l, i + 1, j, h => by
    rw [List.flatMap_cons, List.getElem?_append_right (by rw [hf, Nat.add_mul]; omega), hf, show (i + 1) * sz + j - sz = i * sz + j by rw [Nat.add_mul]; omega, flat_get f sz hf l i j h]
    simp
theorem flat_length {α : Type} (f : α → List Value) (sz : Nat) (hf : ∀ a, (f a).length = sz) (l : List α) : (l.flatMap f).length = l.length * sz := by
  induction l with
  | nil => simp
  | cons a l ih => rw [List.flatMap_cons, List.length_append, ih, hf, List.length_cons, Nat.add_mul]; omega
theorem flat_set {α : Type} (f : α → List Value) (sz : Nat) (hf : ∀ a, (f a).length = sz) (j : Nat) (u : Value) (hj : j < sz) (a a' : α) (ha : f a' = (f a).set j u) : ∀ (l : List α) (i : Nat), l[i]? = some a → (l.flatMap f).set (i * sz + j) u = (l.set i a').flatMap f
  | [], i, h => by simp at h
  | b :: l, 0, h => by
    simp only [List.getElem?_cons_zero, Option.some.injEq] at h
    subst h
    rw [List.flatMap_cons, Nat.zero_mul, Nat.zero_add, List.set_append_left _ _ (by rw [hf]; omega), List.set_cons_zero, List.flatMap_cons, ha]
  | b :: l, i + 1, h => by
    simp only [List.getElem?_cons_succ] at h
    rw [List.flatMap_cons, List.set_append_right _ _ (by rw [hf, Nat.add_mul]; omega), hf, show (i + 1) * sz + j - sz = i * sz + j by rw [Nat.add_mul]; omega, flat_set f sz hf j u hj a a' ha l i h, List.set_cons_succ, List.flatMap_cons]
end Go.Proofs.Ytdnnfoojdfmajaa
