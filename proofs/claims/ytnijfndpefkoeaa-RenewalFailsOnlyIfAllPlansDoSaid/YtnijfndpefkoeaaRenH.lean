import Derived.Test.YtnijfndpefkoeaaRenE
namespace Ren
/-- The windows that a program may meet. -/
structure Ok (ws : List (Int × Int)) : Prop where
  lo : ∀ i, i < ws.length → 0 ≤ A ws i
  hi : ∀ i, i < ws.length → A ws i ≤ B ws i
/-- How many media have their windows within a span of years. -/
def inSpan (ws : List (Int × Int)) (lo hi : Int) (j : Nat) : Bool := decide (lo ≤ A ws j) && decide (B ws j ≤ hi)
def spanN (ws : List (Int × Int)) (lo hi : Int) : Nat := cnt ws.length (inSpan ws lo hi)
/-- No span is asked for more than it can give. -/
def Possible (ws : List (Int × Int)) (p : Nat) : Prop := ∀ i k, i < ws.length → k < ws.length → A ws i ≤ B ws k → (spanN ws (A ws i) (B ws k) : Int) ≤ p * (B ws k - A ws i + 1)
/-- A plan: every year in its window, not more than p in a year. -/
structure PlanIs (ws : List (Int × Int)) (p : Nat) (s : List Int) : Prop where
  len : s.length = ws.length
  win : ∀ i, i < ws.length → A ws i ≤ yr s i ∧ yr s i ≤ B ws i
  cnt : ∀ t, cnt ws.length (inY s t) ≤ p
def inYs (s : List Int) (lo : Int) (k : Nat) (j : Nat) : Bool := decide (lo ≤ yr s j) && decide (yr s j < lo + k)
theorem inYs_succ (s : List Int) (lo : Int) (k : Nat) (n : Nat) : cnt n (inYs s lo (k + 1)) = cnt n (inYs s lo k) + cnt n (inY s (lo + k)) := by
  rw [← cnt_or]
  · refine cnt_congr fun i _ => ?_
    unfold inYs inY
    rw [Bool.eq_iff_iff]
    simp only [Bool.and_eq_true, Bool.or_eq_true, decide_eq_true_eq]
    omega
  · intro i _ h
    simp only [inYs, inY, Bool.and_eq_true, decide_eq_true_eq] at h
    omega
theorem inYs_le {s : List Int} {p n : Nat} (h : ∀ t, cnt n (inY s t) ≤ p) (lo : Int) : ∀ k, cnt n (inYs s lo k) ≤ p * k
  | 0 => by
    rw [cnt_zero]
    · omega
    · intro i _; simp [inYs]
  | k + 1 => by
    rw [inYs_succ, Nat.mul_succ]
    have := inYs_le h lo k
    have := h (lo + k)
    omega
theorem inYs_eq {s : List Int} {p n : Nat} {lo : Int} : ∀ k : Nat, (∀ t, lo ≤ t → t < lo + k → cnt n (inY s t) = p) → cnt n (inYs s lo k) = p * k
  | 0, _ => by
    rw [cnt_zero]
    · omega
    · intro i _; simp [inYs]
  | k + 1, h => by
    rw [inYs_succ, Nat.mul_succ, inYs_eq k (fun t h1 h2 => h t h1 (by omega)), h (lo + k) (by omega) (by omega)]
theorem plan_possible {ws : List (Int × Int)} {p : Nat} {s : List Int} (h : PlanIs ws p s) : Possible ws p := by
  intro i k hi hk hab
  unfold spanN
  have h1 : cnt ws.length (inSpan ws (A ws i) (B ws k)) ≤ cnt ws.length (inYs s (A ws i) (B ws k - A ws i + 1).toNat) := by
    refine cnt_mono fun j hj hsp => ?_
    have := h.win j hj
    simp only [inSpan, inYs, Bool.and_eq_true, decide_eq_true_eq] at hsp ⊢
    omega
  have h2 := inYs_le h.cnt (A ws i) (B ws k - A ws i + 1).toNat
  have h3 : ((B ws k - A ws i + 1).toNat : Int) = B ws k - A ws i + 1 := by omega
  have h4 : (cnt ws.length (inSpan ws (A ws i) (B ws k)) : Int) ≤ ((p * (B ws k - A ws i + 1).toNat : Nat) : Int) := by omega
  rw [Int.natCast_mul, h3] at h4
  exact h4
/-- What the most urgent ones first leave in the end. -/
structure Done (ws : List (Int × Int)) (p : Nat) (s : List Int) : Prop where
  len : s.length = ws.length
  from_ : ∀ i, i < ws.length → 0 ≤ yr s i ∧ A ws i ≤ yr s i
  cnt : ∀ t, 0 ≤ t → cnt ws.length (inY s t) ≤ p
  full : ∀ i, i < ws.length → ∀ t, 0 ≤ t → A ws i ≤ t → t < yr s i → Ren.cnt ws.length (inY s t) = p ∧ ∀ j, j < ws.length → yr s j = t → B ws j ≤ B ws i
/-- One comes too late only if a span is asked for more than it can give. -/
theorem late_impossible {ws : List (Int × Int)} {p : Nat} {s : List Int} (ok : Ok ws) (h : Done ws p s) {x : Nat} (hx : x < ws.length) (hl : B ws x < yr s x) : ¬ Possible ws p := by
  intro hp
  -- the span of full years of urgent ones
  have key : ∀ n : Nat, ∀ lo : Int, 0 ≤ lo → lo.toNat = n → lo ≤ A ws x → (∀ t, lo ≤ t → t < yr s x → cnt ws.length (inY s t) = p ∧ ∀ j, j < ws.length → yr s j = t → B ws j ≤ B ws x) →
      ∃ lo : Int, 0 ≤ lo ∧ lo ≤ A ws x ∧ (∀ t, lo ≤ t → t < yr s x → cnt ws.length (inY s t) = p ∧ ∀ j, j < ws.length → yr s j = t → B ws j ≤ B ws x) ∧ ∀ j, j < ws.length → lo ≤ yr s j → yr s j ≤ yr s x → B ws j ≤ B ws x → lo ≤ A ws j := by
    intro n
    induction n with
    | zero =>
      intro lo h0 h1 h2 h3
      exact ⟨lo, h0, h2, h3, fun j hj _ _ _ => by have := ok.lo j hj; omega⟩
    | succ n ih =>
      intro lo h0 h1 h2 h3
      by_cases hg : cnt ws.length (inY s (lo - 1)) = p ∧ ∀ j, j < ws.length → yr s j = lo - 1 → B ws j ≤ B ws x
      · refine ih (lo - 1) (by omega) (by omega) (by omega) fun t ht1 ht2 => ?_
        rcases Int.lt_or_le t lo with q | q
        · rw [show t = lo - 1 by omega]; exact hg
        · exact h3 t q ht2
      · refine ⟨lo, h0, h2, h3, fun j hj hj1 hj2 hj3 => ?_⟩
        rcases Int.lt_or_le (A ws j) lo with q | q
        · refine absurd ?_ hg
          obtain ⟨f1, f2⟩ := h.full j hj (lo - 1) (by omega) (by omega) (by omega)
          exact ⟨f1, fun i hi he => Int.le_trans (f2 i hi he) hj3⟩
        · exact q
  have hlo := ok.lo x hx
  obtain ⟨lo, h0, h1, h2, h3⟩ := key (A ws x).toNat (A ws x) hlo rfl (Int.le_refl _) fun t ht1 ht2 => h.full x hx t (by omega) ht1 ht2
  have hxb := ok.hi x hx
  -- the media of these years, and x
  have hcnt := inYs_eq (s := s) (p := p) (n := ws.length) (lo := lo) (B ws x - lo + 1).toNat (fun t ht1 ht2 => (h2 t ht1 (by omega)).1)
  have hone : cnt ws.length (fun i => inYs s lo (B ws x - lo + 1).toNat i || decide (i = x)) = cnt ws.length (inYs s lo (B ws x - lo + 1).toNat) + 1 := by
    refine cnt_one hx (fun i _ hn => ?_) ?_ ?_
    · simp [hn]
    · simp [inYs]; omega
    · simp
  -- the least beginning among them
  have hmem : ∀ i, i < ws.length → (inYs s lo (B ws x - lo + 1).toNat i || decide (i = x)) = true → lo ≤ A ws i ∧ B ws i ≤ B ws x := by
    intro i hi hm
    simp only [inYs, Bool.or_eq_true, Bool.and_eq_true, decide_eq_true_eq] at hm
    rcases hm with ⟨m1, m2⟩ | rfl
    · have hb := (h2 (yr s i) m1 (by omega)).2 i hi rfl
      exact ⟨h3 i hi m1 (by omega) hb, hb⟩
    · exact ⟨h1, Int.le_refl _⟩
  have hmin : ∀ n, n ≤ ws.length → (∃ i, i < n ∧ (inYs s lo (B ws x - lo + 1).toNat i || decide (i = x)) = true) → ∃ i, i < n ∧ (inYs s lo (B ws x - lo + 1).toNat i || decide (i = x)) = true ∧ ∀ j, j < n → (inYs s lo (B ws x - lo + 1).toNat j || decide (j = x)) = true → A ws i ≤ A ws j := by
    intro n
    induction n with
    | zero => rintro _ ⟨i, hi, _⟩; omega
    | succ n ih =>
      intro hn hex
      by_cases hprev : ∃ i, i < n ∧ (inYs s lo (B ws x - lo + 1).toNat i || decide (i = x)) = true
      · obtain ⟨i, i1, i2, i3⟩ := ih (by omega) hprev
        by_cases hnn : (inYs s lo (B ws x - lo + 1).toNat n || decide (n = x)) = true ∧ A ws n < A ws i
        · refine ⟨n, by omega, hnn.1, fun j hj hm => ?_⟩
          rcases Nat.lt_or_ge j n with q | q
          · have := i3 j q hm; omega
          · rw [show j = n by omega]; exact Int.le_refl _
        · refine ⟨i, by omega, i2, fun j hj hm => ?_⟩
          rcases Nat.lt_or_ge j n with q | q
          · exact i3 j q hm
          · have e : j = n := by omega
            subst e
            rcases Int.lt_or_le (A ws j) (A ws i) with q2 | q2
            · exact absurd ⟨hm, q2⟩ hnn
            · exact q2
      · obtain ⟨i, i1, i2⟩ := hex
        have e : i = n := by
          rcases Nat.lt_or_ge i n with q | q
          · exact absurd ⟨i, q, i2⟩ hprev
          · omega
        subst e
        refine ⟨i, by omega, i2, fun j hj hm => ?_⟩
        rcases Nat.lt_or_ge j i with q | q
        · exact absurd ⟨j, q, hm⟩ hprev
        · rw [show j = i by omega]; exact Int.le_refl _
  obtain ⟨i, i1, i2, i3⟩ := hmin ws.length (Nat.le_refl _) ⟨x, hx, by simp⟩
  have hia := hmem i i1 i2
  have hix : A ws i ≤ A ws x := i3 x hx (by simp)
  have hsp := hp i x i1 hx (by omega)
  have hge : cnt ws.length (fun i => inYs s lo (B ws x - lo + 1).toNat i || decide (i = x)) ≤ spanN ws (A ws i) (B ws x) := by
    refine cnt_mono fun j hj hm => ?_
    have := hmem j hj hm
    have := i3 j hj hm
    simp only [inSpan, Bool.and_eq_true, decide_eq_true_eq]
    omega
  rw [hone, hcnt] at hge
  have e1 : ((B ws x - lo + 1).toNat : Int) = B ws x - lo + 1 := by omega
  have hge2 : ((p * (B ws x - lo + 1).toNat + 1 : Nat) : Int) ≤ spanN ws (A ws i) (B ws x) := by omega
  rw [Int.natCast_add, Int.natCast_mul, e1] at hge2
  have hmul : (p : Int) * (B ws x - A ws i + 1) ≤ p * (B ws x - lo + 1) := Int.mul_le_mul_of_nonneg_left (by omega) (by omega)
  have : ((1 : Nat) : Int) = 1 := rfl
  omega
/-- The number of media that have no year. -/
def left (ws : List (Int × Int)) (ys : List Int) : Nat := cnt ws.length fun i => decide (yr ys i < 0)
theorem state_done {ws : List (Int × Int)} {p : Nat} {y : Nat} (h : left ws (stateAt ws p y) = 0) : Done ws p (stateAt ws p y) := by
  have s := state_is ws p y
  have hn : ∀ i, i < ws.length → 0 ≤ yr (stateAt ws p y) i := by
    intro i hi
    rcases Int.lt_or_le (yr (stateAt ws p y) i) 0 with q | q
    · have h0 : cnt ws.length (fun j => decide (j = i)) ≤ left ws (stateAt ws p y) := cnt_mono fun j hj hm => by
        simp only [decide_eq_true_eq] at hm ⊢
        rw [hm]; exact q
      have h1 : cnt ws.length (fun j => decide (j = i)) = cnt ws.length (fun _ => false) + 1 := cnt_one hi (fun j _ hj => by simp [hj]) rfl (by simp)
      omega
    · exact q
  refine ⟨s.len, fun i hi => ?_, s.cnt, fun i hi t ht ha hlt => ?_⟩
  · have := s.rng i hi
    have := hn i hi
    omega
  · have := s.rng i hi
    have := hn i hi
    exact s.full i hi t ht (by omega) ha (.inr hlt)
theorem left_year {ws : List (Int × Int)} {y : Int} (hy : 0 ≤ y) : ∀ (p : Nat) (ys : List Int), ys.length = ws.length → left ws (yearGo ws y p ys) ≤ left ws ys ∧ (1 ≤ p → (∀ i, i < ws.length → A ws i ≤ y) → left ws (yearGo ws y p ys) ≤ left ws ys - 1)
  | 0, ys, _ => ⟨Nat.le_refl _, fun h => by omega⟩
  | p + 1, ys, h => by
    have hp := pick_is ws ys y
    rw [yearGo]
    cases hk : pick ws ys y with
    | none =>
      rw [hk] at hp
      refine ⟨Nat.le_refl _, fun _ ha => ?_⟩
      have : left ws ys = 0 := cnt_zero fun i hi => by
        have := hp i hi
        have h2 := ha i hi
        cases hd : decide (yr ys i < 0) with
        | false => rfl
        | true => simp [pend, hd, h2] at this
      simp only
      omega
    | some k =>
      rw [hk] at hp
      obtain ⟨h1, h2, h3⟩ := hp
      obtain ⟨h2a, h2b⟩ := pend_iff.1 h2
      have hone : left ws ys = left ws (ys.set k y) + 1 := by
        refine cnt_one h1 (fun i _ hn => ?_) ?_ ?_
        · show decide (yr (ys.set k y) i < 0) = decide (yr ys i < 0)
          rw [yr_set (by omega), if_neg (Ne.symm hn)]
        · show decide (yr (ys.set k y) k < 0) = false
          rw [yr_set (by omega), if_pos rfl]; simp; omega
        · simpa using h2a
      have r := left_year hy p (ys.set k y) (by simpa using h)
      simp only
      exact ⟨by omega, fun _ _ => by omega⟩
/-- In the end all media have their years. -/
theorem left_end {ws : List (Int × Int)} {p : Nat} (hp : 1 ≤ p) {M : Nat} (hm : ∀ i, i < ws.length → A ws i ≤ M) : ∀ k, left ws (stateAt ws p (M + k)) ≤ ws.length - k
  | 0 => cnt_le _ _
  | k + 1 => by
    have h1 := left_end hp hm k
    have h2 := (left_year (ws := ws) (y := ((M + k : Nat) : Int)) (by omega) p (stateAt ws p (M + k)) (state_is ws p (M + k)).len).2 hp (fun i hi => by have := hm i hi; omega)
    show left ws (yearGo ws ((M + k : Nat) : Int) p (stateAt ws p (M + k))) ≤ _
    omega
theorem left_all {ws : List (Int × Int)} {p : Nat} (hp : 1 ≤ p) {M : Nat} (hm : ∀ i, i < ws.length → A ws i ≤ M) {y : Nat} (hy : M + ws.length ≤ y) : left ws (stateAt ws p y) = 0 := by
  have := left_end hp hm (y - M)
  rw [show M + (y - M) = y by omega] at this
  omega
/-- A year in which none is left changes nothing. -/
theorem year_none {ws : List (Int × Int)} {y : Int} {ys : List Int} (h : left ws ys = 0) : ∀ p, yearGo ws y p ys = ys
  | 0 => rfl
  | p + 1 => by
    have hp := pick_is ws ys y
    rw [yearGo]
    cases hk : pick ws ys y with
    | none => rfl
    | some k =>
      rw [hk] at hp
      have h1 := (pend_iff.1 hp.2.1).1
      have h0 : cnt ws.length (fun j => decide (j = k)) ≤ left ws ys := cnt_mono fun j hj hm => by
        simp only [decide_eq_true_eq] at hm ⊢
        rw [hm]; exact h1
      have h2 : cnt ws.length (fun j => decide (j = k)) = cnt ws.length (fun _ => false) + 1 := cnt_one hp.1 (fun j _ hj => by simp [hj]) rfl (by simp)
      omega
theorem state_stays {ws : List (Int × Int)} {p y : Nat} (h : left ws (stateAt ws p y) = 0) : ∀ k, stateAt ws p (y + k) = stateAt ws p y
  | 0 => rfl
  | k + 1 => by
    show yearGo ws ((y + k : Nat) : Int) p (stateAt ws p (y + k)) = _
    rw [state_stays h k, year_none h]
/-- The plan: the years, if none is too late. -/
def lateB (ws : List (Int × Int)) (s : List Int) : Bool := (List.range ws.length).any fun i => decide (B ws i < yr s i)
theorem late_iff {ws : List (Int × Int)} {s : List Int} : lateB ws s = false ↔ ∀ i, i < ws.length → yr s i ≤ B ws i := by
  unfold lateB
  rw [List.any_eq_false]
  constructor
  · intro h i hi
    have := h i (by simpa using hi)
    simpa using this
  · intro h i hi
    have := h i (by simpa using hi)
    simpa using this
def lastY (ws : List (Int × Int)) : Nat := 20000 + ws.length
def schedF (ws : List (Int × Int)) (p : Nat) : List Int := stateAt ws p (lastY ws)
def planF (ws : List (Int × Int)) (p : Nat) : Option (List Int) := if lateB ws (schedF ws p) = false then some (schedF ws p) else none
structure Ok2 (ws : List (Int × Int)) : Prop extends Ok ws where
  top : ∀ i, i < ws.length → A ws i ≤ 20000
theorem sched_left {ws : List (Int × Int)} {p : Nat} (ok : Ok2 ws) (hp : 1 ≤ p) : left ws (schedF ws p) = 0 := left_all hp ok.top (Nat.le_refl _)
theorem sched_done {ws : List (Int × Int)} {p : Nat} (ok : Ok2 ws) (hp : 1 ≤ p) : Done ws p (schedF ws p) := state_done (sched_left ok hp)
theorem plan_some {ws : List (Int × Int)} {p : Nat} (ok : Ok2 ws) (hp : 1 ≤ p) {s : List Int} (h : planF ws p = some s) : PlanIs ws p s := by
  unfold planF at h
  split at h
  · rename_i hl
    cases h
    have d := sched_done ok hp
    refine ⟨d.len, fun i hi => ⟨(d.from_ i hi).2, late_iff.1 hl i hi⟩, fun t => ?_⟩
    rcases Int.lt_or_le t 0 with q | q
    · rw [cnt_zero]
      · omega
      · intro i hi
        have := (d.from_ i hi).1
        simp [inY]; omega
    · exact d.cnt t q
  · cases h
theorem plan_iff {ws : List (Int × Int)} {p : Nat} (ok : Ok2 ws) (hp : 1 ≤ p) : (planF ws p).isSome = true ↔ Possible ws p := by
  constructor
  · intro h
    obtain ⟨s, hs⟩ := Option.isSome_iff_exists.1 h
    exact plan_possible (plan_some ok hp hs)
  · intro h
    unfold planF
    cases hl : lateB ws (schedF ws p) with
    | false => simp
    | true =>
      exfalso
      have hn : ¬ lateB ws (schedF ws p) = false := by rw [hl]; decide
      rw [late_iff] at hn
      have : ∃ i, i < ws.length ∧ B ws i < yr (schedF ws p) i := by
        apply Classical.byContradiction
        intro hx
        refine hn fun i hi => ?_
        rcases Int.lt_or_le (B ws i) (yr (schedF ws p) i) with q | q
        · exact absurd ⟨i, hi, q⟩ hx
        · exact q
      obtain ⟨x, hx, hb⟩ := this
      exact late_impossible ok.toOk (sched_done ok hp) hx hb h
theorem possible_all {ws : List (Int × Int)} {p : Nat} (h : ws.length ≤ p) : Possible ws p := by
  intro i k hi hk hab
  have h1 : spanN ws (A ws i) (B ws k) ≤ ws.length := cnt_le _ _
  have h2 : (p : Int) * 1 ≤ p * (B ws k - A ws i + 1) := Int.mul_le_mul_of_nonneg_left (by omega) (by omega)
  omega
theorem possible_mono {ws : List (Int × Int)} {p q : Nat} (h : Possible ws p) (hpq : p ≤ q) : Possible ws q := by
  intro i k hi hk hab
  have h1 := h i k hi hk hab
  have h2 : (p : Int) * (B ws k - A ws i + 1) ≤ q * (B ws k - A ws i + 1) := Int.mul_le_mul_of_nonneg_right (by omega) (by omega)
  omega
end Ren
