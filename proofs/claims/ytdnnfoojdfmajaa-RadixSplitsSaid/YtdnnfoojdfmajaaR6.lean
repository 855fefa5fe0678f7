/- Parts of the proofs of layer 19 (radix): contracts of its functions, and the laws' walks. -/
import Derived.Test.YtdnnfoojdfmajaaProg
import Derived.WalkKit
import Derived.WalkSpells
import Derived.WalkLawsBesides
import Derived.BigQuiet
import Derived.Deep.QuietTactic
import Derived.Lib.Hide
import Derived.Deep.RegionHeld3
import Derived.Deep.DeepCutAuto
import Derived.KernelRfl
import Derived.Deep.OwnRows
import Derived.Laws.CopyOwn
import Derived.Laws.CopyRow
import Derived.StillTailTactics
import Derived.Deep.RegionLaw
import Derived.Handy
import Derived.Deep.CutRange
import Derived.Deep.CutBlock
import Derived.Test.YtdnnfoojdfmajaaR5
namespace Go.Proofs.Ytdnnfoojdfmajaa
open Go.RowKit
set_option linter.unusedVariables false
set_option linter.unusedSimpArgs false

theorem newX (x : X) (w : World) : (w.alloc (.cells #[.int .i64 ((x.p : Nat) : Int), .int .i64 (3 * ((x.k : Nat) : Int)), .int .i64 x.v, .bool x.a, .bool x.b, .bool x.c] 40)).cell? ⟨w.heap.size, 0, none⟩ = some (.int .i64 ((x.p : Nat) : Int)) ∧ (w.alloc (.cells #[.int .i64 ((x.p : Nat) : Int), .int .i64 (3 * ((x.k : Nat) : Int)), .int .i64 x.v, .bool x.a, .bool x.b, .bool x.c] 40)).cell? ⟨w.heap.size, 1, none⟩ = some (.int .i64 (3 * ((x.k : Nat) : Int))) ∧ (w.alloc (.cells #[.int .i64 ((x.p : Nat) : Int), .int .i64 (3 * ((x.k : Nat) : Int)), .int .i64 x.v, .bool x.a, .bool x.b, .bool x.c] 40)).cell? ⟨w.heap.size, 2, none⟩ = some (.int .i64 x.v) ∧
    (w.alloc (.cells #[.int .i64 ((x.p : Nat) : Int), .int .i64 (3 * ((x.k : Nat) : Int)), .int .i64 x.v, .bool x.a, .bool x.b, .bool x.c] 40)).cell? ⟨w.heap.size, 3, none⟩ = some (.bool x.a) ∧ (w.alloc (.cells #[.int .i64 ((x.p : Nat) : Int), .int .i64 (3 * ((x.k : Nat) : Int)), .int .i64 x.v, .bool x.a, .bool x.b, .bool x.c] 40)).cell? ⟨w.heap.size, 4, none⟩ = some (.bool x.b) ∧ (w.alloc (.cells #[.int .i64 ((x.p : Nat) : Int), .int .i64 (3 * ((x.k : Nat) : Int)), .int .i64 x.v, .bool x.a, .bool x.b, .bool x.c] 40)).cell? ⟨w.heap.size, 5, none⟩ = some (.bool x.c) := by
  have hz := heap_alloc_new w (.cells #[.int .i64 ((x.p : Nat) : Int), .int .i64 (3 * ((x.k : Nat) : Int)), .int .i64 x.v, .bool x.a, .bool x.b, .bool x.c] 40)
  exact ⟨cell_of_row _ _ 0 _ 40 _ hz, cell_of_row _ _ 1 _ 40 _ hz, cell_of_row _ _ 2 _ 40 _ hz, cell_of_row _ _ 3 _ 40 _ hz, cell_of_row _ _ 4 _ 40 _ hz, cell_of_row _ _ 5 _ 40 _ hz⟩
theorem box12 (w : World) : (w.alloc (.cells #[.int .i64 0, .int .i64 0] 29)).cell? ⟨w.heap.size, 0, none⟩ = some (.int .i64 0) ∧ (w.alloc (.cells #[.int .i64 0, .int .i64 0] 29)).cell? ⟨w.heap.size, 1, none⟩ = some (.int .i64 0) ∧ (w.alloc (.cells #[.int .i64 0, .int .i64 0] 29)).frozen? ⟨w.heap.size, 0, none⟩ = false ∧ (w.alloc (.cells #[.int .i64 0, .int .i64 0] 29)).frozen? ⟨w.heap.size, 1, none⟩ = false ∧ Below w.heap.size w (w.alloc (.cells #[.int .i64 0, .int .i64 0] 29)) ∧ w.heap.size < (w.alloc (.cells #[.int .i64 0, .int .i64 0] 29)).heap.size := by
  have hz := heap_alloc_new w (.cells #[.int .i64 0, .int .i64 0] 29)
  exact ⟨cell_of_row _ _ 0 _ 29 _ hz, cell_of_row _ _ 1 _ 29 _ hz, frozen_of_row _ _ 0 _ 29 hz, frozen_of_row _ _ 1 _ 29 hz, (Below.refl _ _).alloc (Nat.le_refl _) _, lt_of_block hz⟩
set_option maxHeartbeats 2000000 in
theorem RNext_arg (page mark : Int) (r : Nat) (w : World) (h : ¬ (-1 ≤ mark ∧ mark < 3)) : Calls Try.prog 12 #[.pointer (some ⟨r, 0, none⟩), .int .i64 page, .int .i64 mark] w fun e w' => Below w.heap.size w w' ∧ e = .returned (.tuple #[zblk, .int .i64 2]) := by
  have X0 := Lib.hid (box12 w)
  go_enter Try.func12, Try.ntmps12
  go_upto_region 1 with fail
  generalize w.alloc (.cells #[.int .i64 0, .int .i64 0] 29) = w3 at *
  generalize hD : w.heap.size = D at *
  have HD := Lib.hid hD
  clear hD
  have hb0 : Below w3.heap.size w3 w3 := Below.refl _ _
  have x0 := cell_keep hb0 X0.out.1
  have x1 := cell_keep hb0 X0.out.2.1
  have xf0 := (hb0.frozen X0.out.2.2.2.2.2).trans X0.out.2.2.1
  have xf1 := (hb0.frozen X0.out.2.2.2.2.2).trans X0.out.2.2.2.1
  clear hb0
  by_cases c1 : mark < -1
  · go_wp2_with fail
    refine bodyPost_ret (v := .tuple #[zblk, .int .i64 2]) (by simp [results, Try.results12, go_sem, x0, x1, xf0, xf1, zblk]) rfl ⟨?_, rfl⟩
    refine Below.setCell ?_ (by first | (simp [HD.out]; done) | (simp [HD.out]; omega)) _; refine Below.setCell ?_ (by first | (simp [HD.out]; done) | (simp [HD.out]; omega)) _; rw [HD.out]; exact X0.out.2.2.2.2.1
  · have c2 : 2 < mark := by omega
    go_wp2_with fail
    refine bodyPost_ret (v := .tuple #[zblk, .int .i64 2]) (by simp [results, Try.results12, go_sem, x0, x1, xf0, xf1, zblk]) rfl ⟨?_, rfl⟩
    refine Below.setCell ?_ (by first | (simp [HD.out]; done) | (simp [HD.out]; omega)) _; refine Below.setCell ?_ (by first | (simp [HD.out]; done) | (simp [HD.out]; omega)) _; rw [HD.out]; exact X0.out.2.2.2.2.1
theorem okx_iff {x : X} {page mark : Int} (hx : Xok x) : OkX page mark x ↔ page ≤ ((x.p : Nat) : Int) + ((8 ^ x.k : Nat) : Int) - 1 ∧ (mark < 0 ∨ x.m mark.toNat = true) := by
  unfold OkX
  constructor
  · rintro ⟨a, b⟩; exact ⟨by omega, b⟩
  · rintro ⟨a, b⟩; exact ⟨by omega, b⟩
def Fst (L : List X) (page mark : Int) (e : Ending) : Prop :=
  (∃ i x, L[i]? = some x ∧ OkX page mark x ∧ (∀ y ∈ L.take i, ¬ OkX page mark y) ∧ e = .returned (.tuple #[.agg #[.int .i64 ((x.p : Nat) : Int), .int .i64 (3 * ((x.k : Nat) : Int))], .int .i64 0])) ∨ ((∀ y ∈ L, ¬ OkX page mark y) ∧ e = .returned (.tuple #[zblk, .int .i64 6]))
set_option maxRecDepth 100000 in
set_option maxHeartbeats 8000000 in
theorem RNext_any (page mark : Int) (r : Nat) (F : List Nat) (L : List X) (w : World) (hm : -1 ≤ mark ∧ mark < 3) (h : Rt w r F L) (hgd : Good L) :
    Calls Try.prog 12 #[.pointer (some ⟨r, 0, none⟩), .int .i64 page, .int .i64 mark] w fun e w' => Below w.heap.size w w' ∧ Fst L page mark e := by
  have H0 := Lib.hid (h.below ((Below.refl _ _).alloc (Nat.le_refl _) (.cells #[.int .i64 0, .int .i64 0] 29)))
  have HG := Lib.hid hgd
  have hlen : L.length ≤ 9223372036854775807 := by obtain ⟨al, cl, c0, hT, _⟩ := h.cells; obtain ⟨ao, cap, _, h1, h2⟩ := hT.slice; unfold maxLen at h2; omega
  clear h hgd
  have X0 := Lib.hid (box12 w)
  go_enter Try.func12, Try.ntmps12
  go_upto_region 1 with fail
  generalize w.alloc (.cells #[.int .i64 0, .int .i64 0] 29) = w3 at *
  generalize hD : w.heap.size = D at *
  have HD := Lib.hid hD
  clear hD
  have hmk : mark = -1 ∨ mark = 0 ∨ mark = 1 ∨ mark = 2 := by omega
  clear hm
  rcases hmk with rfl | rfl | rfl | rfl
  · go_wp2_with fail
    go_loopw [8] (fun s wr => ∃ (i : Nat), i ≤ L.length ∧ s = .int .i64 (i : Nat) ∧ RowKit.Hid (Below w3.heap.size w3 wr ∧ ∀ x ∈ L.take i, ¬ OkX page (-1) x)) (fun s _ => L.length - (intOf s).toNat)
    case atStart => exact ⟨0, Nat.zero_le _, rfl, Lib.hid ⟨Below.refl _ _, fun e he => by simp at he⟩⟩
    case round =>
      obtain ⟨i, hi, rfl, HL⟩ := hrel
      have HR := Lib.hid (H0.out.below HL.out.1)
      obtain ⟨ao, cap, c0, hT, _⟩ := HR.out.cells
      by_cases hil : i < L.length
      · obtain ⟨bl, cl2, hv, _, _, hbl, hcell, _⟩ := hT.read (ne_nil_of_lt hil)
        cases hv
        have hk := List.getElem?_eq_getElem hil
        generalize L[i] = x at hk
        obtain ⟨e0, e1, e2, e3, e4, e5⟩ := hcell i _ hk
        have hiI : ((i : Nat) : Int) < ((L.length : Nat) : Int) := by omega
        have hxok := HG.out.1 x (List.mem_of_getElem? hk)
        have hkp := hxok.lt
        have hk2 := hxok.1
        have hsz : 8 ^ x.k ≤ 64 := by rcases k3 hk2 with e | e | e <;> rw [e] <;> decide
        have HSZ := Lib.hid (fun W => siz_at hk2 W)
        have HTK := Lib.hid (And.intro (take_succ' L i _ hk) (And.intro hk (okx_iff (page := page) (mark := -1) hxok)))
        have hbA : Below wr.heap.size wr (wr.alloc (.cells #[.int .i64 ((x.p : Nat) : Int), .int .i64 (3 * ((x.k : Nat) : Int)), .int .i64 x.v, .bool x.a, .bool x.b, .bool x.c] 40)) := (Below.refl _ _).alloc (Nat.le_refl _) _
        clear hcell hT hbl hxok hk
        go_upto_region 7 with fail
        clear e0 e1 e2 e3 e4 e5 c0
        obtain ⟨e0, e1, e2, e3, e4, e5⟩ := newX x wr
        have HB4 := Lib.hid (HL.out.1.trans (hbA.mono HL.out.1.size))
        clear hbA
        generalize wr.heap.size = B4 at *
        generalize wr.alloc (.cells #[.int .i64 ((x.p : Nat) : Int), .int .i64 (3 * ((x.k : Nat) : Int)), .int .i64 x.v, .bool x.a, .bool x.b, .bool x.c] 40) = w4 at *
        obtain ⟨kp, hkpE⟩ : ∃ kp, x.p = kp := ⟨_, rfl⟩
        obtain ⟨sz, hszE⟩ : ∃ sz, 8 ^ x.k = sz := ⟨_, rfl⟩
        have HE := Lib.hid (And.intro hkpE hszE)
        rw [hkpE] at e0 hkp
        rw [hszE] at HSZ hsz
        clear hkpE hszE
        obtain ⟨kk, hkk⟩ : ∃ kk, x.k = kk := ⟨_, rfl⟩
        have HKK := Lib.hid hkk
        rw [hkk] at e1 HSZ hk2
        clear hkk
        have HNO := Lib.hid (fun (hn : ¬ OkX page (-1) x) => (fun e he => by
          rw [HTK.out.1] at he
          rcases List.mem_append.1 he with he | he
          · exact HL.out.2 e he
          · simp at he; subst he; exact hn : ∀ x ∈ L.take (i + 1), ¬ OkX page (-1) x))
        by_cases m1 : page ≤ ((kp : Nat) : Int) + ((sz : Nat) : Int) - 1
        · have HOK := Lib.hid (HTK.out.2.2.2 ⟨by rw [HE.out.1, HE.out.2]; exact m1, .inl (by decide)⟩)
          go_quiet ((go_at_call 14; exact Calls.quiet_of_same (HSZ.out _)))
          have HB5 := Lib.hid (below_drewN HB4.out nq)
          have x0 := cell_keep HB5.out X0.out.1
          have x1 := cell_keep HB5.out X0.out.2.1
          have xf0 := (HB5.out.frozen X0.out.2.2.2.2.2).trans X0.out.2.2.1
          have xf1 := (HB5.out.frozen X0.out.2.2.2.2.2).trans X0.out.2.2.2.1
          have hws := HB5.out.size
          have hD3 := X0.out.2.2.2.2.2
          go_wp2_with fail
          refine bodyPost_ret (v := .tuple #[.agg #[.int .i64 ((kp : Nat) : Int), .int .i64 (3 * ((kk : Nat) : Int))], .int .i64 0]) (by simp [results, Try.results12, go_sem, x0, x1, xf0, xf1, zblk]) rfl ⟨?_, .inl ⟨i, x, HTK.out.2.1, HOK.out, HL.out.2, by rw [HE.out.1, HKK.out]⟩⟩
          refine Below.setCell ?_ (by first | (simp [HD.out]; done) | (simp [HD.out]; omega)) _; refine Below.setCell ?_ (by first | (simp [HD.out]; done) | (simp [HD.out]; omega)) _; rw [HD.out]; exact X0.out.2.2.2.2.1.trans (HB5.out.mono (by omega))
        · have HN := Lib.hid (HNO.out fun ho => m1 (by have := (HTK.out.2.2.1 ho).1; rw [HE.out.1, HE.out.2] at this; exact this))
          go_quiet ((go_at_call 14; exact Calls.quiet_of_same (HSZ.out _)))
          go_wp2_with fail
          exact ⟨⟨i + 1, hil, by simp, Lib.hid ⟨below_drewN HB4.out nq, HN.out⟩⟩, by simp [intOf]; omega⟩
      · have hil2 : i = L.length := by omega
        have hno := HL.out
        rw [hil2, List.take_length] at hno
        have HN := Lib.hid hno
        clear hno hT
        have x0 := cell_keep HN.out.1 X0.out.1
        have x1 := cell_keep HN.out.1 X0.out.2.1
        have xf0 := (HN.out.1.frozen X0.out.2.2.2.2.2).trans X0.out.2.2.1
        have xf1 := (HN.out.1.frozen X0.out.2.2.2.2.2).trans X0.out.2.2.2.1
        have hws := HN.out.1.size
        have hD3 := X0.out.2.2.2.2.2
        go_wp2_with fail
        refine bodyPost_ret (v := .tuple #[zblk, .int .i64 6]) (by simp [results, Try.results12, go_sem, x0, x1, xf0, xf1, zblk]) rfl ⟨?_, .inr ⟨HN.out.2, rfl⟩⟩
        refine Below.setCell ?_ (by first | (simp [HD.out]; done) | (simp [HD.out]; omega)) _; refine Below.setCell ?_ (by first | (simp [HD.out]; done) | (simp [HD.out]; omega)) _; rw [HD.out]; exact X0.out.2.2.2.2.1.trans (HN.out.1.mono (by omega))
  · go_wp2_with fail
    go_loopw [8] (fun s wr => ∃ (i : Nat), i ≤ L.length ∧ s = .int .i64 (i : Nat) ∧ RowKit.Hid (Below w3.heap.size w3 wr ∧ ∀ x ∈ L.take i, ¬ OkX page (0) x)) (fun s _ => L.length - (intOf s).toNat)
    case atStart => exact ⟨0, Nat.zero_le _, rfl, Lib.hid ⟨Below.refl _ _, fun e he => by simp at he⟩⟩
    case round =>
      obtain ⟨i, hi, rfl, HL⟩ := hrel
      have HR := Lib.hid (H0.out.below HL.out.1)
      obtain ⟨ao, cap, c0, hT, _⟩ := HR.out.cells
      by_cases hil : i < L.length
      · obtain ⟨bl, cl2, hv, _, _, hbl, hcell, _⟩ := hT.read (ne_nil_of_lt hil)
        cases hv
        have hk := List.getElem?_eq_getElem hil
        generalize L[i] = x at hk
        obtain ⟨e0, e1, e2, e3, e4, e5⟩ := hcell i _ hk
        have hiI : ((i : Nat) : Int) < ((L.length : Nat) : Int) := by omega
        have hxok := HG.out.1 x (List.mem_of_getElem? hk)
        have hkp := hxok.lt
        have hk2 := hxok.1
        have hsz : 8 ^ x.k ≤ 64 := by rcases k3 hk2 with e | e | e <;> rw [e] <;> decide
        have HSZ := Lib.hid (fun W => siz_at hk2 W)
        have HTK := Lib.hid (And.intro (take_succ' L i _ hk) (And.intro hk (okx_iff (page := page) (mark := 0) hxok)))
        have hbA : Below wr.heap.size wr (wr.alloc (.cells #[.int .i64 ((x.p : Nat) : Int), .int .i64 (3 * ((x.k : Nat) : Int)), .int .i64 x.v, .bool x.a, .bool x.b, .bool x.c] 40)) := (Below.refl _ _).alloc (Nat.le_refl _) _
        clear hcell hT hbl hxok hk
        go_upto_region 7 with fail
        clear e0 e1 e2 e3 e4 e5 c0
        obtain ⟨e0, e1, e2, e3, e4, e5⟩ := newX x wr
        have HB4 := Lib.hid (HL.out.1.trans (hbA.mono HL.out.1.size))
        clear hbA
        generalize wr.heap.size = B4 at *
        generalize wr.alloc (.cells #[.int .i64 ((x.p : Nat) : Int), .int .i64 (3 * ((x.k : Nat) : Int)), .int .i64 x.v, .bool x.a, .bool x.b, .bool x.c] 40) = w4 at *
        obtain ⟨kp, hkpE⟩ : ∃ kp, x.p = kp := ⟨_, rfl⟩
        obtain ⟨sz, hszE⟩ : ∃ sz, 8 ^ x.k = sz := ⟨_, rfl⟩
        have HE := Lib.hid (And.intro hkpE hszE)
        rw [hkpE] at e0 hkp
        rw [hszE] at HSZ hsz
        clear hkpE hszE
        obtain ⟨kk, hkk⟩ : ∃ kk, x.k = kk := ⟨_, rfl⟩
        have HKK := Lib.hid hkk
        rw [hkk] at e1 HSZ hk2
        clear hkk
        have HNO := Lib.hid (fun (hn : ¬ OkX page (0) x) => (fun e he => by
          rw [HTK.out.1] at he
          rcases List.mem_append.1 he with he | he
          · exact HL.out.2 e he
          · simp at he; subst he; exact hn : ∀ x ∈ L.take (i + 1), ¬ OkX page (0) x))
        by_cases m1 : page ≤ ((kp : Nat) : Int) + ((sz : Nat) : Int) - 1
        · by_cases hb : x.a = true
          · have HOK := Lib.hid (HTK.out.2.2.2 ⟨by rw [HE.out.1, HE.out.2]; exact m1, .inr hb⟩)
            rw [hb] at e3
            go_quiet ((go_at_call 14; exact Calls.quiet_of_same (HSZ.out _)))
            have HB5 := Lib.hid (below_drewN HB4.out nq)
            have x0 := cell_keep HB5.out X0.out.1
            have x1 := cell_keep HB5.out X0.out.2.1
            have xf0 := (HB5.out.frozen X0.out.2.2.2.2.2).trans X0.out.2.2.1
            have xf1 := (HB5.out.frozen X0.out.2.2.2.2.2).trans X0.out.2.2.2.1
            have hws := HB5.out.size
            have hD3 := X0.out.2.2.2.2.2
            go_wp2_with fail
            refine bodyPost_ret (v := .tuple #[.agg #[.int .i64 ((kp : Nat) : Int), .int .i64 (3 * ((kk : Nat) : Int))], .int .i64 0]) (by simp [results, Try.results12, go_sem, x0, x1, xf0, xf1, zblk]) rfl ⟨?_, .inl ⟨i, x, HTK.out.2.1, HOK.out, HL.out.2, by rw [HE.out.1, HKK.out]⟩⟩
            refine Below.setCell ?_ (by first | (simp [HD.out]; done) | (simp [HD.out]; omega)) _; refine Below.setCell ?_ (by first | (simp [HD.out]; done) | (simp [HD.out]; omega)) _; rw [HD.out]; exact X0.out.2.2.2.2.1.trans (HB5.out.mono (by omega))
          · have HN := Lib.hid (HNO.out fun ho => by rcases (HTK.out.2.2.1 ho).2 with h | h; exact absurd h (by decide); exact hb h)
            have hb' : x.a = false := by simpa using hb
            rw [hb'] at e3
            go_quiet ((go_at_call 14; exact Calls.quiet_of_same (HSZ.out _)))
            go_wp2_with fail
            exact ⟨⟨i + 1, hil, by simp, Lib.hid ⟨below_drewN HB4.out nq, HN.out⟩⟩, by simp [intOf]; omega⟩
        · have HN := Lib.hid (HNO.out fun ho => m1 (by have := (HTK.out.2.2.1 ho).1; rw [HE.out.1, HE.out.2] at this; exact this))
          go_quiet ((go_at_call 14; exact Calls.quiet_of_same (HSZ.out _)))
          go_wp2_with fail
          exact ⟨⟨i + 1, hil, by simp, Lib.hid ⟨below_drewN HB4.out nq, HN.out⟩⟩, by simp [intOf]; omega⟩
      · have hil2 : i = L.length := by omega
        have hno := HL.out
        rw [hil2, List.take_length] at hno
        have HN := Lib.hid hno
        clear hno hT
        have x0 := cell_keep HN.out.1 X0.out.1
        have x1 := cell_keep HN.out.1 X0.out.2.1
        have xf0 := (HN.out.1.frozen X0.out.2.2.2.2.2).trans X0.out.2.2.1
        have xf1 := (HN.out.1.frozen X0.out.2.2.2.2.2).trans X0.out.2.2.2.1
        have hws := HN.out.1.size
        have hD3 := X0.out.2.2.2.2.2
        go_wp2_with fail
        refine bodyPost_ret (v := .tuple #[zblk, .int .i64 6]) (by simp [results, Try.results12, go_sem, x0, x1, xf0, xf1, zblk]) rfl ⟨?_, .inr ⟨HN.out.2, rfl⟩⟩
        refine Below.setCell ?_ (by first | (simp [HD.out]; done) | (simp [HD.out]; omega)) _; refine Below.setCell ?_ (by first | (simp [HD.out]; done) | (simp [HD.out]; omega)) _; rw [HD.out]; exact X0.out.2.2.2.2.1.trans (HN.out.1.mono (by omega))
  · go_wp2_with fail
    go_loopw [8] (fun s wr => ∃ (i : Nat), i ≤ L.length ∧ s = .int .i64 (i : Nat) ∧ RowKit.Hid (Below w3.heap.size w3 wr ∧ ∀ x ∈ L.take i, ¬ OkX page (1) x)) (fun s _ => L.length - (intOf s).toNat)
    case atStart => exact ⟨0, Nat.zero_le _, rfl, Lib.hid ⟨Below.refl _ _, fun e he => by simp at he⟩⟩
    case round =>
      obtain ⟨i, hi, rfl, HL⟩ := hrel
      have HR := Lib.hid (H0.out.below HL.out.1)
      obtain ⟨ao, cap, c0, hT, _⟩ := HR.out.cells
      by_cases hil : i < L.length
      · obtain ⟨bl, cl2, hv, _, _, hbl, hcell, _⟩ := hT.read (ne_nil_of_lt hil)
        cases hv
        have hk := List.getElem?_eq_getElem hil
        generalize L[i] = x at hk
        obtain ⟨e0, e1, e2, e3, e4, e5⟩ := hcell i _ hk
        have hiI : ((i : Nat) : Int) < ((L.length : Nat) : Int) := by omega
        have hxok := HG.out.1 x (List.mem_of_getElem? hk)
        have hkp := hxok.lt
        have hk2 := hxok.1
        have hsz : 8 ^ x.k ≤ 64 := by rcases k3 hk2 with e | e | e <;> rw [e] <;> decide
        have HSZ := Lib.hid (fun W => siz_at hk2 W)
        have HTK := Lib.hid (And.intro (take_succ' L i _ hk) (And.intro hk (okx_iff (page := page) (mark := 1) hxok)))
        have hbA : Below wr.heap.size wr (wr.alloc (.cells #[.int .i64 ((x.p : Nat) : Int), .int .i64 (3 * ((x.k : Nat) : Int)), .int .i64 x.v, .bool x.a, .bool x.b, .bool x.c] 40)) := (Below.refl _ _).alloc (Nat.le_refl _) _
        clear hcell hT hbl hxok hk
        go_upto_region 7 with fail
        clear e0 e1 e2 e3 e4 e5 c0
        obtain ⟨e0, e1, e2, e3, e4, e5⟩ := newX x wr
        have HB4 := Lib.hid (HL.out.1.trans (hbA.mono HL.out.1.size))
        clear hbA
        generalize wr.heap.size = B4 at *
        generalize wr.alloc (.cells #[.int .i64 ((x.p : Nat) : Int), .int .i64 (3 * ((x.k : Nat) : Int)), .int .i64 x.v, .bool x.a, .bool x.b, .bool x.c] 40) = w4 at *
        obtain ⟨kp, hkpE⟩ : ∃ kp, x.p = kp := ⟨_, rfl⟩
        obtain ⟨sz, hszE⟩ : ∃ sz, 8 ^ x.k = sz := ⟨_, rfl⟩
        have HE := Lib.hid (And.intro hkpE hszE)
        rw [hkpE] at e0 hkp
        rw [hszE] at HSZ hsz
        clear hkpE hszE
        obtain ⟨kk, hkk⟩ : ∃ kk, x.k = kk := ⟨_, rfl⟩
        have HKK := Lib.hid hkk
        rw [hkk] at e1 HSZ hk2
        clear hkk
        have HNO := Lib.hid (fun (hn : ¬ OkX page (1) x) => (fun e he => by
          rw [HTK.out.1] at he
          rcases List.mem_append.1 he with he | he
          · exact HL.out.2 e he
          · simp at he; subst he; exact hn : ∀ x ∈ L.take (i + 1), ¬ OkX page (1) x))
        by_cases m1 : page ≤ ((kp : Nat) : Int) + ((sz : Nat) : Int) - 1
        · by_cases hb : x.b = true
          · have HOK := Lib.hid (HTK.out.2.2.2 ⟨by rw [HE.out.1, HE.out.2]; exact m1, .inr hb⟩)
            rw [hb] at e4
            go_quiet ((go_at_call 14; exact Calls.quiet_of_same (HSZ.out _)))
            have HB5 := Lib.hid (below_drewN HB4.out nq)
            have x0 := cell_keep HB5.out X0.out.1
            have x1 := cell_keep HB5.out X0.out.2.1
            have xf0 := (HB5.out.frozen X0.out.2.2.2.2.2).trans X0.out.2.2.1
            have xf1 := (HB5.out.frozen X0.out.2.2.2.2.2).trans X0.out.2.2.2.1
            have hws := HB5.out.size
            have hD3 := X0.out.2.2.2.2.2
            go_wp2_with fail
            refine bodyPost_ret (v := .tuple #[.agg #[.int .i64 ((kp : Nat) : Int), .int .i64 (3 * ((kk : Nat) : Int))], .int .i64 0]) (by simp [results, Try.results12, go_sem, x0, x1, xf0, xf1, zblk]) rfl ⟨?_, .inl ⟨i, x, HTK.out.2.1, HOK.out, HL.out.2, by rw [HE.out.1, HKK.out]⟩⟩
            refine Below.setCell ?_ (by first | (simp [HD.out]; done) | (simp [HD.out]; omega)) _; refine Below.setCell ?_ (by first | (simp [HD.out]; done) | (simp [HD.out]; omega)) _; rw [HD.out]; exact X0.out.2.2.2.2.1.trans (HB5.out.mono (by omega))
          · have HN := Lib.hid (HNO.out fun ho => by rcases (HTK.out.2.2.1 ho).2 with h | h; exact absurd h (by decide); exact hb h)
            have hb' : x.b = false := by simpa using hb
            rw [hb'] at e4
            go_quiet ((go_at_call 14; exact Calls.quiet_of_same (HSZ.out _)))
            go_wp2_with fail
            exact ⟨⟨i + 1, hil, by simp, Lib.hid ⟨below_drewN HB4.out nq, HN.out⟩⟩, by simp [intOf]; omega⟩
        · have HN := Lib.hid (HNO.out fun ho => m1 (by have := (HTK.out.2.2.1 ho).1; rw [HE.out.1, HE.out.2] at this; exact this))
          go_quiet ((go_at_call 14; exact Calls.quiet_of_same (HSZ.out _)))
          go_wp2_with fail
          exact ⟨⟨i + 1, hil, by simp, Lib.hid ⟨below_drewN HB4.out nq, HN.out⟩⟩, by simp [intOf]; omega⟩
      · have hil2 : i = L.length := by omega
        have hno := HL.out
        rw [hil2, List.take_length] at hno
        have HN := Lib.hid hno
        clear hno hT
        have x0 := cell_keep HN.out.1 X0.out.1
        have x1 := cell_keep HN.out.1 X0.out.2.1
        have xf0 := (HN.out.1.frozen X0.out.2.2.2.2.2).trans X0.out.2.2.1
        have xf1 := (HN.out.1.frozen X0.out.2.2.2.2.2).trans X0.out.2.2.2.1
        have hws := HN.out.1.size
        have hD3 := X0.out.2.2.2.2.2
        go_wp2_with fail
        refine bodyPost_ret (v := .tuple #[zblk, .int .i64 6]) (by simp [results, Try.results12, go_sem, x0, x1, xf0, xf1, zblk]) rfl ⟨?_, .inr ⟨HN.out.2, rfl⟩⟩
        refine Below.setCell ?_ (by first | (simp [HD.out]; done) | (simp [HD.out]; omega)) _; refine Below.setCell ?_ (by first | (simp [HD.out]; done) | (simp [HD.out]; omega)) _; rw [HD.out]; exact X0.out.2.2.2.2.1.trans (HN.out.1.mono (by omega))
  · go_wp2_with fail
    go_loopw [8] (fun s wr => ∃ (i : Nat), i ≤ L.length ∧ s = .int .i64 (i : Nat) ∧ RowKit.Hid (Below w3.heap.size w3 wr ∧ ∀ x ∈ L.take i, ¬ OkX page (2) x)) (fun s _ => L.length - (intOf s).toNat)
    case atStart => exact ⟨0, Nat.zero_le _, rfl, Lib.hid ⟨Below.refl _ _, fun e he => by simp at he⟩⟩
    case round =>
      obtain ⟨i, hi, rfl, HL⟩ := hrel
      have HR := Lib.hid (H0.out.below HL.out.1)
      obtain ⟨ao, cap, c0, hT, _⟩ := HR.out.cells
      by_cases hil : i < L.length
      · obtain ⟨bl, cl2, hv, _, _, hbl, hcell, _⟩ := hT.read (ne_nil_of_lt hil)
        cases hv
        have hk := List.getElem?_eq_getElem hil
        generalize L[i] = x at hk
        obtain ⟨e0, e1, e2, e3, e4, e5⟩ := hcell i _ hk
        have hiI : ((i : Nat) : Int) < ((L.length : Nat) : Int) := by omega
        have hxok := HG.out.1 x (List.mem_of_getElem? hk)
        have hkp := hxok.lt
        have hk2 := hxok.1
        have hsz : 8 ^ x.k ≤ 64 := by rcases k3 hk2 with e | e | e <;> rw [e] <;> decide
        have HSZ := Lib.hid (fun W => siz_at hk2 W)
        have HTK := Lib.hid (And.intro (take_succ' L i _ hk) (And.intro hk (okx_iff (page := page) (mark := 2) hxok)))
        have hbA : Below wr.heap.size wr (wr.alloc (.cells #[.int .i64 ((x.p : Nat) : Int), .int .i64 (3 * ((x.k : Nat) : Int)), .int .i64 x.v, .bool x.a, .bool x.b, .bool x.c] 40)) := (Below.refl _ _).alloc (Nat.le_refl _) _
        clear hcell hT hbl hxok hk
        go_upto_region 7 with fail
        clear e0 e1 e2 e3 e4 e5 c0
        obtain ⟨e0, e1, e2, e3, e4, e5⟩ := newX x wr
        have HB4 := Lib.hid (HL.out.1.trans (hbA.mono HL.out.1.size))
        clear hbA
        generalize wr.heap.size = B4 at *
        generalize wr.alloc (.cells #[.int .i64 ((x.p : Nat) : Int), .int .i64 (3 * ((x.k : Nat) : Int)), .int .i64 x.v, .bool x.a, .bool x.b, .bool x.c] 40) = w4 at *
        obtain ⟨kp, hkpE⟩ : ∃ kp, x.p = kp := ⟨_, rfl⟩
        obtain ⟨sz, hszE⟩ : ∃ sz, 8 ^ x.k = sz := ⟨_, rfl⟩
        have HE := Lib.hid (And.intro hkpE hszE)
        rw [hkpE] at e0 hkp
        rw [hszE] at HSZ hsz
        clear hkpE hszE
        obtain ⟨kk, hkk⟩ : ∃ kk, x.k = kk := ⟨_, rfl⟩
        have HKK := Lib.hid hkk
        rw [hkk] at e1 HSZ hk2
        clear hkk
        have HNO := Lib.hid (fun (hn : ¬ OkX page (2) x) => (fun e he => by
          rw [HTK.out.1] at he
          rcases List.mem_append.1 he with he | he
          · exact HL.out.2 e he
          · simp at he; subst he; exact hn : ∀ x ∈ L.take (i + 1), ¬ OkX page (2) x))
        by_cases m1 : page ≤ ((kp : Nat) : Int) + ((sz : Nat) : Int) - 1
        · by_cases hb : x.c = true
          · have HOK := Lib.hid (HTK.out.2.2.2 ⟨by rw [HE.out.1, HE.out.2]; exact m1, .inr hb⟩)
            rw [hb] at e5
            go_quiet ((go_at_call 14; exact Calls.quiet_of_same (HSZ.out _)))
            have HB5 := Lib.hid (below_drewN HB4.out nq)
            have x0 := cell_keep HB5.out X0.out.1
            have x1 := cell_keep HB5.out X0.out.2.1
            have xf0 := (HB5.out.frozen X0.out.2.2.2.2.2).trans X0.out.2.2.1
            have xf1 := (HB5.out.frozen X0.out.2.2.2.2.2).trans X0.out.2.2.2.1
            have hws := HB5.out.size
            have hD3 := X0.out.2.2.2.2.2
            go_wp2_with fail
            refine bodyPost_ret (v := .tuple #[.agg #[.int .i64 ((kp : Nat) : Int), .int .i64 (3 * ((kk : Nat) : Int))], .int .i64 0]) (by simp [results, Try.results12, go_sem, x0, x1, xf0, xf1, zblk]) rfl ⟨?_, .inl ⟨i, x, HTK.out.2.1, HOK.out, HL.out.2, by rw [HE.out.1, HKK.out]⟩⟩
            refine Below.setCell ?_ (by first | (simp [HD.out]; done) | (simp [HD.out]; omega)) _; refine Below.setCell ?_ (by first | (simp [HD.out]; done) | (simp [HD.out]; omega)) _; rw [HD.out]; exact X0.out.2.2.2.2.1.trans (HB5.out.mono (by omega))
          · have HN := Lib.hid (HNO.out fun ho => by rcases (HTK.out.2.2.1 ho).2 with h | h; exact absurd h (by decide); exact hb h)
            have hb' : x.c = false := by simpa using hb
            rw [hb'] at e5
            go_quiet ((go_at_call 14; exact Calls.quiet_of_same (HSZ.out _)))
            go_wp2_with fail
            exact ⟨⟨i + 1, hil, by simp, Lib.hid ⟨below_drewN HB4.out nq, HN.out⟩⟩, by simp [intOf]; omega⟩
        · have HN := Lib.hid (HNO.out fun ho => m1 (by have := (HTK.out.2.2.1 ho).1; rw [HE.out.1, HE.out.2] at this; exact this))
          go_quiet ((go_at_call 14; exact Calls.quiet_of_same (HSZ.out _)))
          go_wp2_with fail
          exact ⟨⟨i + 1, hil, by simp, Lib.hid ⟨below_drewN HB4.out nq, HN.out⟩⟩, by simp [intOf]; omega⟩
      · have hil2 : i = L.length := by omega
        have hno := HL.out
        rw [hil2, List.take_length] at hno
        have HN := Lib.hid hno
        clear hno hT
        have x0 := cell_keep HN.out.1 X0.out.1
        have x1 := cell_keep HN.out.1 X0.out.2.1
        have xf0 := (HN.out.1.frozen X0.out.2.2.2.2.2).trans X0.out.2.2.1
        have xf1 := (HN.out.1.frozen X0.out.2.2.2.2.2).trans X0.out.2.2.2.1
        have hws := HN.out.1.size
        have hD3 := X0.out.2.2.2.2.2
        go_wp2_with fail
        refine bodyPost_ret (v := .tuple #[zblk, .int .i64 6]) (by simp [results, Try.results12, go_sem, x0, x1, xf0, xf1, zblk]) rfl ⟨?_, .inr ⟨HN.out.2, rfl⟩⟩
        refine Below.setCell ?_ (by first | (simp [HD.out]; done) | (simp [HD.out]; omega)) _; refine Below.setCell ?_ (by first | (simp [HD.out]; done) | (simp [HD.out]; omega)) _; rw [HD.out]; exact X0.out.2.2.2.2.1.trans (HN.out.1.mono (by omega))

end Go.Proofs.Ytdnnfoojdfmajaa
