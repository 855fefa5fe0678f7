/- Plain theorems for layer 18 (gap): trees of stretches, lists of stretches, room. -/
import Derived.Test.YtkaglggljomgdaaK1
namespace Go.Proofs.Ytkaglggljomgdaa
set_option linter.unusedVariables false
set_option linter.unusedSimpArgs false

theorem fst_spec (t : Tr) (a b : Int) (l r : Tr) (ht : t = .nd a b l r) : ∃ e L, tlist t = e :: L ∧ fst t = e.1 := by
  induction t generalizing a b l r with
  | nil => cases ht
  | nd c d l' r' ihl ihr =>
    cases l' with
    | nil => exact ⟨(c, d), _, rfl, rfl⟩
    | nd c1 d1 l1 r1 =>
      obtain ⟨e, L, h1, h2⟩ := ihl _ _ _ _ rfl
      exact ⟨e, L ++ (c, d) :: tlist r', by rw [tlist, h1]; rfl, h2⟩
def endL : Int → List (Int × Int) → Int
  | f, [] => f
  | _, e :: L => endL e.2 L
theorem endL_append (e : Int × Int) (M : List (Int × Int)) (L : List (Int × Int)) : ∀ f, endL f (L ++ e :: M) = endL e.2 M := by
  induction L with
  | nil => intro f; rfl
  | cons d L ih => intro f; exact ih d.2
theorem lst_spec (t : Tr) : ∀ a b l r f, t = .nd a b l r → lst t = endL f (tlist t) := by
  induction t with
  | nil => intro a b l r f h; cases h
  | nd c d l' r' ihl ihr =>
    intro a b l r f h
    rw [tlist, endL_append]
    cases r' with
    | nil => rfl
    | nd c1 d1 l1 r1 => exact ihr _ _ _ _ _ rfl
theorem Rg.endL_le {L : List (Int × Int)} : ∀ {f g : Int}, Rg f L g → f ≤ endL f L ∧ endL f L ≤ g := by
  induction L with
  | nil => intro f g h; exact ⟨Int.le_refl _, h⟩
  | cons d L ih =>
    intro f g h
    obtain ⟨a1, a2, a3⟩ := h
    have := ih a3
    rw [endL]
    omega
theorem Rg.upto {L : List (Int × Int)} : ∀ {f g : Int}, Rg f L g → ∀ g', endL f L ≤ g' → Rg f L g' := by
  induction L with
  | nil => intro f g h g' h'; exact h'
  | cons d L ih => intro f g h g' h'; obtain ⟨a1, a2, a3⟩ := h; exact ⟨a1, a2, ih a3 g' h'⟩
/-- All values of a tree lie between 0 and 5000. -/
def Vals : Tr → Prop
  | .nil => True
  | .nd a b l r => (0 ≤ a ∧ a ≤ 5000 ∧ 0 ≤ b ∧ b ≤ 5000) ∧ Vals l ∧ Vals r
theorem vals_iff (t : Tr) : Vals t ↔ ∀ e ∈ tlist t, 0 ≤ e.1 ∧ e.1 ≤ 5000 ∧ 0 ≤ e.2 ∧ e.2 ≤ 5000 := by
  induction t with
  | nil => exact ⟨fun _ e he => (by cases he), fun _ => trivial⟩
  | nd a b l r ihl ihr =>
    rw [Vals, tlist, ihl, ihr]
    constructor
    · rintro ⟨h1, h2, h3⟩ e he
      rcases List.mem_append.1 he with he | he
      · exact h2 e he
      · rcases List.mem_cons.1 he with rfl | he
        · exact h1
        · exact h3 e he
    · intro h
      exact ⟨h (a, b) (by simp), fun e he => h e (by simp [he]), fun e he => h e (by simp [he])⟩
theorem vals_fst (t : Tr) (h : Vals t) : 0 ≤ fst t ∧ fst t ≤ 5000 := by
  cases t with
  | nil => simp [fst]
  | nd a b l r =>
    obtain ⟨e, L, h1, h2⟩ := fst_spec _ a b l r rfl
    rw [vals_iff] at h
    have := h e (by rw [h1]; simp)
    rw [h2]; omega
theorem vals_lst (t : Tr) (h : Vals t) : 0 ≤ lst t ∧ lst t ≤ 5000 := by
  induction t with
  | nil => simp [lst]
  | nd a b l r ihl ihr =>
    obtain ⟨h1, h2, h3⟩ := h
    cases r with
    | nil => rw [lst]; omega
    | nd c d l' r' => exact ihr h3
theorem vals_gp (t : Tr) (h : Vals t) : 0 ≤ gp t ∧ gp t ≤ 5000 := by
  induction t with
  | nil => simp [gp]
  | nd a b l r ihl ihr =>
    obtain ⟨h1, h2, h3⟩ := h
    have il := ihl h2
    have ir := ihr h3
    have ll := vals_lst l h2
    have fr := vals_fst r h3
    rw [gp]
    cases l with
    | nil =>
      cases r with
      | nil => simp [gpl, gpr]
      | nd c d l' r' => simp only [gpl, gpr]; omega
    | nd c1 d1 l1 r1 =>
      cases r with
      | nil => simp only [gpl, gpr]; omega
      | nd c d l' r' => simp only [gpl, gpr]; omega
theorem Rg.vals {t : Tr} {f g : Int} (h : Rg f (tlist t) g) (hf : 0 ≤ f) (hg : g ≤ 5000) : Vals t := (vals_iff t).2 fun e he => by
  have := h.mem e he
  omega
def gapMax : Int → List (Int × Int) → Int
  | _, [] => 0
  | f, e :: L => max (e.1 - f) (gapMax e.2 L)
theorem gapMax_nonneg (L : List (Int × Int)) : ∀ f, 0 ≤ gapMax f L := by
  induction L with
  | nil => intro f; exact Int.le_refl _
  | cons d L ih => intro f; have := ih d.2; rw [gapMax]; omega
theorem gapMax_append (e : Int × Int) (M : List (Int × Int)) (L : List (Int × Int)) : ∀ f, gapMax f (L ++ e :: M) = max (gapMax f L) (max (e.1 - endL f L) (gapMax e.2 M)) := by
  induction L with
  | nil => intro f; show max _ _ = max 0 (max _ _); have := gapMax_nonneg M e.2; rw [endL]; omega
  | cons d L ih =>
    intro f
    show max _ (gapMax d.2 (L ++ e :: M)) = max (max _ _) _
    rw [ih, endL]; omega
theorem gp_spec (t : Tr) : ∀ a b l r f g, t = .nd a b l r → Rg f (tlist t) g → max (gp t) (fst t - f) = gapMax f (tlist t) := by
  induction t with
  | nil => intro a b l r f g h; cases h
  | nd a b l r ihl ihr =>
    intro _ _ _ _ f g _ h
    rw [tlist, Rg_append] at h
    obtain ⟨h1, h2, h3⟩ := h
    have el := h1.endL_le
    have er := h3.le
    rw [tlist, gapMax_append, gp]
    simp only at *
    have r0 : ∀ g0, 0 ≤ g0 → gpr b g0 r (gp r) = max g0 (gapMax b (tlist r)) := by
      intro g0 hg
      cases r with
      | nil => show g0 = max g0 0; omega
      | nd c d l' r' => rw [← ihr _ _ _ _ _ _ rfl h3]; simp only [gpr]; omega
    cases l with
    | nil =>
      rw [gpl, r0 _ (Int.le_refl _), fst]
      simp only [tlist, endL, gapMax]
      have := h1.le
      have := gapMax_nonneg (tlist r) b
      omega
    | nd c d l' r' =>
      have i := ihl _ _ _ _ _ _ rfl h1
      have ll := lst_spec (.nd c d l' r') _ _ _ _ f rfl
      have l0 : 0 ≤ gpl a (.nd c d l' r') (gp (.nd c d l' r')) := by simp only [gpl]; omega
      rw [r0 _ l0, ← i, ← ll]
      rw [← ll] at el
      show max (max (max (max 0 _) _) _) (fst (.nd c d l' r') - f) = _
      omega
/-- The least page from f and low on that is a multiple of k and has n pages of room up to to; 0: none. -/
def fitI (low n k : Int) (f to : Int) : Int :=
  let at_ := max f low
  let dn := at_ - at_ % k
  let up := if dn < at_ then dn + k else dn
  if up < to ∧ n ≤ to - up then up else 0
def Size (k : Int) : Prop := k = 1 ∨ k = 2 ∨ k = 4 ∨ k = 8 ∨ k = 16 ∨ k = 32 ∨ k = 64 ∨ k = 128 ∨ k = 256
theorem fitI_spec (low n k f to : Int) (hk : Size k) (hf : 1 ≤ f) (hn : 1 ≤ n) :
    (fitI low n k f to = 0 ∧ ∀ p, f ≤ p → low ≤ p → p % k = 0 → ¬ p + n ≤ to) ∨
    (0 < fitI low n k f to ∧ f ≤ fitI low n k f to ∧ low ≤ fitI low n k f to ∧ fitI low n k f to % k = 0 ∧ fitI low n k f to + n ≤ to ∧ ∀ p, f ≤ p → low ≤ p → p % k = 0 → fitI low n k f to ≤ p) := by
  unfold fitI
  simp only
  have key : ∃ u, (if max f low - max f low % k < max f low then max f low - max f low % k + k else max f low - max f low % k) = u ∧ f ≤ u ∧ low ≤ u ∧ u % k = 0 ∧ ∀ p, f ≤ p → low ≤ p → p % k = 0 → u ≤ p := by
    generalize hm : max f low = m
    have h1 : f ≤ m ∧ low ≤ m ∧ (m = f ∨ m = low) := by omega
    clear hm
    refine ⟨_, rfl, ?_⟩
    rcases hk with rfl | rfl | rfl | rfl | rfl | rfl | rfl | rfl | rfl
    all_goals (split <;> (refine ⟨by omega, by omega, by omega, fun p a b c => by omega⟩))
  obtain ⟨u, e, h1, h2, h3, h4⟩ := key
  rw [e]
  split
  · right
    exact ⟨by omega, h1, h2, h3, by omega, h4⟩
  · left
    refine ⟨rfl, fun p a b c => ?_⟩
    have := h4 p a b c
    omega
def scan (low n k : Int) : List (Int × Int) → Int → Int × Int
  | [], f => (0, f)
  | e :: L, f => if 0 < fitI low n k f e.1 then (fitI low n k f e.1, f) else scan low n k L e.2
theorem scan_append (low n k : Int) (M : List (Int × Int)) (L : List (Int × Int)) : ∀ f, scan low n k (L ++ M) f = if 0 < (scan low n k L f).1 then scan low n k L f else scan low n k M (scan low n k L f).2 := by
  induction L with
  | nil => intro f; rw [List.nil_append, scan, if_neg (by simp)]
  | cons d L ih =>
    intro f
    rw [List.cons_append, scan, scan]
    split
    · rename_i h; simp only [h, if_true]
    · exact ih d.2
theorem scan_end (low n k : Int) (L : List (Int × Int)) : ∀ f, ¬ 0 < (scan low n k L f).1 → scan low n k L f = ((scan low n k L f).1, endL f L) := by
  induction L with
  | nil => intro f h; rfl
  | cons d L ih =>
    intro f h
    rw [scan] at h ⊢
    split
    · rename_i hp; rw [if_pos hp] at h; exact absurd hp h
    · rename_i hp; rw [if_neg hp] at h; exact ih d.2 h
theorem scan_low (low n k : Int) (hk : Size k) (hn : 1 ≤ n) (L : List (Int × Int)) : ∀ f g, 1 ≤ f → Rg f L g → endL f L ≤ low → scan low n k L f = (0, endL f L) := by
  induction L with
  | nil => intro f g hf h hl; rfl
  | cons d L ih =>
    intro f g hf h hl
    obtain ⟨a1, a2, a3⟩ := h
    have el := a3.endL_le
    rw [endL] at hl ⊢
    rw [scan, if_neg, ih _ _ (by omega) a3 hl]
    rcases fitI_spec low n k f d.1 hk hf hn with h | h <;> omega
theorem scan_gap (low n k : Int) (hk : Size k) (hn : 1 ≤ n) (L : List (Int × Int)) : ∀ f g, 1 ≤ f → Rg f L g → gapMax f L < n → scan low n k L f = (0, endL f L) := by
  induction L with
  | nil => intro f g hf h hl; rfl
  | cons d L ih =>
    intro f g hf h hl
    obtain ⟨a1, a2, a3⟩ := h
    rw [gapMax] at hl
    rw [scan, if_neg, ih _ _ (by omega) a3 (by omega), endL]
    rcases fitI_spec low n k f d.1 hk hf hn with h | h <;> omega
def roomT (low n k : Int) : Tr → Int → Int × Int
  | .nil, f => (0, f)
  | .nd a b l r, f =>
    if lst (.nd a b l r) ≤ low ∨ (gp (.nd a b l r) < n ∧ fst (.nd a b l r) - f < n) then (0, lst (.nd a b l r))
    else if 0 < (roomT low n k l f).1 then roomT low n k l f
    else if 0 < fitI low n k (roomT low n k l f).2 a then (fitI low n k (roomT low n k l f).2 a, (roomT low n k l f).2)
    else roomT low n k r b
theorem roomT_scan (low n k : Int) (hk : Size k) (hn : 1 ≤ n) (t : Tr) : ∀ f g, 1 ≤ f → Rg f (tlist t) g → roomT low n k t f = scan low n k (tlist t) f := by
  induction t with
  | nil => intro f g hf h; rfl
  | nd a b l r ihl ihr =>
    intro f g hf h
    have h0 := h
    rw [tlist, Rg_append] at h
    obtain ⟨h1, h2, h3⟩ := h
    rw [roomT]
    split
    · rename_i hs
      have hls := lst_spec (.nd a b l r) _ _ _ _ f rfl
      have hgs := gp_spec (.nd a b l r) _ _ _ _ f g rfl h0
      rcases hs with hs | hs
      · rw [scan_low low n k hk hn _ f g hf h0 (by omega), hls]
      · rw [scan_gap low n k hk hn _ f g hf h0 (by omega), hls]
    · rw [tlist, scan_append, ihl _ _ hf h1]
      split
      · rfl
      · rw [scan]
        have := h1.le
        simp only at *
        split
        · rfl
        · exact ihr _ _ (by omega) h3
def scanF (low n k : Int) (L : List (Int × Int)) (f : Int) : Int := if 0 < (scan low n k L f).1 then (scan low n k L f).1 else fitI low n k (scan low n k L f).2 4096
/-- A page that no stretch has. -/
def Free (L : List (Int × Int)) (q : Int) : Prop := ∀ e ∈ L, ¬ (e.1 ≤ q ∧ q < e.2)
def Okp (L : List (Int × Int)) (low n k : Int) (p : Int) : Prop := low ≤ p ∧ p % k = 0 ∧ p + n ≤ 4096 ∧ ∀ q, p ≤ q → q < p + n → Free L q
theorem scanF_cons (low n k : Int) (e : Int × Int) (L : List (Int × Int)) (f : Int) : scanF low n k (e :: L) f = if 0 < fitI low n k f e.1 then fitI low n k f e.1 else scanF low n k L e.2 := by
  unfold scanF
  rw [scan]
  split
  · rename_i h; simp only [h, if_true]
  · rfl
theorem scanF_spec (low n k : Int) (hk : Size k) (hn : 1 ≤ n) (L : List (Int × Int)) : ∀ f, 1 ≤ f → Rg f L 4096 →
    (scanF low n k L f = 0 ∧ ∀ p, f ≤ p → ¬ Okp L low n k p) ∨
    (0 < scanF low n k L f ∧ f ≤ scanF low n k L f ∧ Okp L low n k (scanF low n k L f) ∧ ∀ p, f ≤ p → Okp L low n k p → scanF low n k L f ≤ p) := by
  induction L with
  | nil =>
    intro f hf h
    have e : scanF low n k [] f = fitI low n k f 4096 := rfl
    rw [e]
    rcases fitI_spec low n k f 4096 hk hf hn with ⟨h1, h2⟩ | ⟨h1, h2, h3, h4, h5, h6⟩
    · exact .inl ⟨h1, fun p hp ho => h2 p hp ho.1 ho.2.1 ho.2.2.1⟩
    · exact .inr ⟨h1, h2, ⟨h3, h4, h5, fun q _ _ e he => by cases he⟩, fun p hp ho => h6 p hp ho.1 ho.2.1⟩
  | cons d L ih =>
    intro f hf h
    obtain ⟨a1, a2, a3⟩ := h
    rw [scanF_cons]
    have dich : ∀ p, f ≤ p → Okp (d :: L) low n k p → (p + n ≤ d.1 ∨ (d.2 ≤ p ∧ Okp L low n k p)) := by
      intro p hp ho
      obtain ⟨o1, o2, o3, o4⟩ := ho
      by_cases c1 : p + n ≤ d.1
      · exact .inl c1
      · right
        have hd : d.2 ≤ p := by
          have q1 := o4 (max p d.1) (by omega)
          by_cases c2 : d.2 ≤ p
          · exact c2
          · exact absurd ⟨by omega, by omega⟩ (q1 (by omega) d (by simp))
        exact ⟨hd, o1, o2, o3, fun q hq1 hq2 e he => o4 q hq1 hq2 e (by simp [he])⟩
    rcases fitI_spec low n k f d.1 hk hf hn with ⟨h1, h2⟩ | ⟨h1, h2, h3, h4, h5, h6⟩
    · rw [if_neg (by omega)]
      rcases ih d.2 (by omega) a3 with ⟨i1, i2⟩ | ⟨i1, i2, i3, i4⟩
      · refine .inl ⟨i1, fun p hp ho => ?_⟩
        rcases dich p hp ho with hc | ⟨hc1, hc2⟩
        · exact h2 p hp ho.1 ho.2.1 hc
        · exact i2 p hc1 hc2
      · refine .inr ⟨i1, by omega, ⟨i3.1, i3.2.1, i3.2.2.1, fun q q1 q2 e he => ?_⟩, fun p hp ho => ?_⟩
        · rcases List.mem_cons.1 he with rfl | he
          · omega
          · exact i3.2.2.2 q q1 q2 e he
        · rcases dich p hp ho with hc | ⟨hc1, hc2⟩
          · exact absurd hc (h2 p hp ho.1 ho.2.1)
          · exact i4 p hc1 hc2
    · rw [if_pos h1]
      refine .inr ⟨h1, h2, ⟨h3, h4, by have := a3.le; omega, fun q q1 q2 e he => ?_⟩, fun p hp ho => h6 p hp ho.1 ho.2.1⟩
      rcases List.mem_cons.1 he with rfl | he
      · omega
      · have := a3.mem e he; omega
def gTot : Int → List (Int × Int) → Int
  | f, [] => 4096 - f
  | f, e :: L => max (e.1 - f) (gTot e.2 L)
theorem gTot_eq (L : List (Int × Int)) : ∀ f, Rg f L 4096 → gTot f L = max (gapMax f L) (4096 - endL f L) := by
  induction L with
  | nil => intro f h; simp only [Rg] at h; show 4096 - f = max 0 (4096 - f); omega
  | cons d L ih => intro f h; obtain ⟨a1, a2, a3⟩ := h; rw [gTot, ih _ a3, gapMax, endL]; omega
theorem gTot_spec (L : List (Int × Int)) : ∀ f, Rg f L 4096 → ∀ k, 1 ≤ k → (k ≤ gTot f L ↔ ∃ q, f ≤ q ∧ q + k ≤ 4096 ∧ ∀ p, q ≤ p → p < q + k → Free L p) := by
  induction L with
  | nil =>
    intro f h k hk
    rw [gTot]
    constructor
    · intro h1; exact ⟨f, Int.le_refl _, by omega, fun p _ _ e he => by cases he⟩
    · rintro ⟨q, h1, h2, _⟩; omega
  | cons d L ih =>
    intro f h k hk
    obtain ⟨a1, a2, a3⟩ := h
    rw [gTot]
    have i := ih d.2 a3 k hk
    constructor
    · intro h1
      by_cases c : k ≤ d.1 - f
      · refine ⟨f, Int.le_refl _, by have := a3.le; omega, fun p p1 p2 e he => ?_⟩
        rcases List.mem_cons.1 he with rfl | he
        · omega
        · have := a3.mem e he; omega
      · obtain ⟨q, q1, q2, q3⟩ := i.1 (by omega)
        refine ⟨q, by omega, q2, fun p p1 p2 e he => ?_⟩
        rcases List.mem_cons.1 he with rfl | he
        · omega
        · exact q3 p p1 p2 e he
    · rintro ⟨q, q1, q2, q3⟩
      by_cases c : q + k ≤ d.1
      · omega
      · have hd : d.2 ≤ q := by
          have q4 := q3 (max q d.1) (by omega)
          by_cases c2 : d.2 ≤ q
          · exact c2
          · exact absurd ⟨by omega, by omega⟩ (q4 (by omega) d (by simp))
        have := i.2 ⟨q, hd, q2, fun p p1 p2 e he => q3 p p1 p2 e (by simp [he])⟩
        omega

end Go.Proofs.Ytkaglggljomgdaa
