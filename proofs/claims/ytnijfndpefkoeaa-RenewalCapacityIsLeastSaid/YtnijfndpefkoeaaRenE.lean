namespace Ren
/-- The first and the last year of the window of a medium. -/
def A (ws : List (Int × Int)) (i : Nat) : Int := (ws[i]?.getD (0, 0)).1
def B (ws : List (Int × Int)) (i : Nat) : Int := (ws[i]?.getD (0, 0)).2
/-- The year of a medium; -1: none yet. -/
def yr (ys : List Int) (i : Nat) : Int := ys[i]?.getD (-1)
def pend (ws : List (Int × Int)) (ys : List Int) (y : Int) (i : Nat) : Bool := decide (yr ys i < 0) && decide (A ws i ≤ y)
def pickStep (ws : List (Int × Int)) (ys : List Int) (y : Int) (k : Option Nat) (i : Nat) : Option Nat :=
  if pend ws ys y i then (match k with | none => some i | some j => if B ws i < B ws j then some i else some j) else k
/-- The most urgent medium. -/
def pick (ws : List (Int × Int)) (ys : List Int) (y : Int) : Option Nat := (List.range ws.length).foldl (pickStep ws ys y) none
/-- j is at least as urgent as i. -/
def urg (ws : List (Int × Int)) (j i : Nat) : Prop := B ws j < B ws i ∨ B ws j = B ws i ∧ j ≤ i
def PickIs (ws : List (Int × Int)) (ys : List Int) (y : Int) (n : Nat) : Option Nat → Prop
  | none => ∀ i, i < n → pend ws ys y i = false
  | some k => k < n ∧ pend ws ys y k = true ∧ ∀ i, i < n → pend ws ys y i = true → urg ws k i
theorem pick_step {ws : List (Int × Int)} {ys : List Int} {y : Int} {n : Nat} {k : Option Nat} (h : PickIs ws ys y n k) : PickIs ws ys y (n + 1) (pickStep ws ys y k n) := by
  unfold pickStep
  by_cases hp : pend ws ys y n = true
  · rw [if_pos hp]
    cases k with
    | none =>
      refine ⟨by omega, hp, fun i hi hpi => ?_⟩
      rcases Nat.lt_or_ge i n with q | q
      · rw [h i q] at hpi; cases hpi
      · exact .inr ⟨by rw [show i = n by omega], by omega⟩
    | some j =>
      obtain ⟨h1, h2, h3⟩ := h
      show PickIs ws ys y (n + 1) (if B ws n < B ws j then some n else some j)
      by_cases hb : B ws n < B ws j
      · rw [if_pos hb]
        refine ⟨by omega, hp, fun i hi hpi => ?_⟩
        rcases Nat.lt_or_ge i n with q | q
        · have := h3 i q hpi
          unfold urg at *
          omega
        · exact .inr ⟨by rw [show i = n by omega], by omega⟩
      · rw [if_neg hb]
        refine ⟨by omega, h2, fun i hi hpi => ?_⟩
        rcases Nat.lt_or_ge i n with q | q
        · exact h3 i q hpi
        · rw [show i = n by omega]
          unfold urg
          omega
  · rw [if_neg hp]
    have hp' : pend ws ys y n = false := by simpa using hp
    cases k with
    | none =>
      intro i hi
      rcases Nat.lt_or_ge i n with q | q
      · exact h i q
      · rw [show i = n by omega]; exact hp'
    | some j =>
      obtain ⟨h1, h2, h3⟩ := h
      refine ⟨by omega, h2, fun i hi hpi => ?_⟩
      rcases Nat.lt_or_ge i n with q | q
      · exact h3 i q hpi
      · rw [show i = n by omega, hp'] at hpi; cases hpi
theorem pick_to (ws : List (Int × Int)) (ys : List Int) (y : Int) : ∀ n, PickIs ws ys y n ((List.range n).foldl (pickStep ws ys y) none)
  | 0 => fun i hi => by omega
  | n + 1 => by
    rw [List.range_succ, List.foldl_append]
    exact pick_step (pick_to ws ys y n)
theorem pick_is (ws : List (Int × Int)) (ys : List Int) (y : Int) : PickIs ws ys y ws.length (pick ws ys y) := pick_to ws ys y ws.length
/-- The medium that is picked is the only one with its property. -/
theorem pick_eq {ws : List (Int × Int)} {ys : List Int} {y : Int} {k : Option Nat} (h : PickIs ws ys y ws.length k) : pick ws ys y = k := by
  have h0 := pick_is ws ys y
  cases hp : pick ws ys y with
  | none =>
    rw [hp] at h0
    cases k with
    | none => rfl
    | some j => exact absurd ((h0 j h.1).symm.trans h.2.1) (by decide)
  | some i =>
    rw [hp] at h0
    cases k with
    | none => exact absurd ((h i h0.1).symm.trans h0.2.1) (by decide)
    | some j =>
      have a := h0.2.2 j h.1 h.2.1
      have b := h.2.2 i h0.1 h0.2.1
      unfold urg at a b
      rw [show i = j by omega]
/-- The renewals of a year. -/
def yearGo (ws : List (Int × Int)) (y : Int) : Nat → List Int → List Int
  | 0, ys => ys
  | p + 1, ys => match pick ws ys y with
    | none => ys
    | some k => yearGo ws y p (ys.set k y)
/-- The years of media ahead of year y. -/
def stateAt (ws : List (Int × Int)) (p : Nat) : Nat → List Int
  | 0 => List.replicate ws.length (-1)
  | y + 1 => yearGo ws y p (stateAt ws p y)
theorem yr_set {ys : List Int} {k i : Nat} {v : Int} (hk : k < ys.length) : yr (ys.set k v) i = if k = i then v else yr ys i := by
  unfold yr
  rw [List.getElem?_set]
  by_cases h : k = i
  · rw [if_pos h, if_pos h, if_pos (by omega)]; rfl
  · rw [if_neg h, if_neg h]
/-- How many numbers below n have a property. -/
def cnt (n : Nat) (f : Nat → Bool) : Nat := (List.range n).countP f
theorem cnt_succ (n : Nat) (f : Nat → Bool) : cnt (n + 1) f = cnt n f + if f n = true then 1 else 0 := by
  unfold cnt
  rw [List.range_succ, List.countP_append]
  simp [List.countP_cons]
theorem cnt_le (n : Nat) (f : Nat → Bool) : cnt n f ≤ n := by
  have := List.countP_le_length (p := f) (l := List.range n)
  simpa [cnt] using this
theorem cnt_congr {n : Nat} {f g : Nat → Bool} (h : ∀ i, i < n → f i = g i) : cnt n f = cnt n g := by
  induction n with
  | zero => rfl
  | succ n ih => rw [cnt_succ, cnt_succ, ih (fun i hi => h i (by omega)), h n (by omega)]
theorem cnt_mono {n : Nat} {f g : Nat → Bool} (h : ∀ i, i < n → f i = true → g i = true) : cnt n f ≤ cnt n g := by
  induction n with
  | zero => exact Nat.le_refl _
  | succ n ih =>
    rw [cnt_succ, cnt_succ]
    have := ih (fun i hi => h i (by omega))
    by_cases hf : f n = true
    · rw [if_pos hf, if_pos (h n (by omega) hf)]; omega
    · rw [if_neg hf]; split <;> omega
theorem cnt_one {n k : Nat} {f g : Nat → Bool} (hk : k < n) (h : ∀ i, i < n → i ≠ k → f i = g i) (hf : f k = false) (hg : g k = true) : cnt n g = cnt n f + 1 := by
  induction n with
  | zero => omega
  | succ n ih =>
    rw [cnt_succ, cnt_succ]
    rcases Nat.lt_or_ge k n with q | q
    · rw [ih q (fun i hi hn => h i (by omega) hn), h n (by omega) (by omega)]; omega
    · have e : k = n := by omega
      subst e
      have := cnt_congr (n := k) (f := f) (g := g) (fun i hi => h i (by omega) (by omega))
      rw [this, hf, hg]; rfl
theorem cnt_or {n : Nat} {f g : Nat → Bool} (h : ∀ i, i < n → ¬ (f i = true ∧ g i = true)) : cnt n (fun i => f i || g i) = cnt n f + cnt n g := by
  induction n with
  | zero => rfl
  | succ n ih =>
    rw [cnt_succ, cnt_succ, cnt_succ, ih (fun i hi => h i (by omega))]
    have := h n (by omega)
    cases hf : f n <;> cases hg : g n <;> simp_all <;> omega
theorem cnt_zero {n : Nat} {f : Nat → Bool} (h : ∀ i, i < n → f i = false) : cnt n f = 0 := by
  induction n with
  | zero => rfl
  | succ n ih => rw [cnt_succ, ih (fun i hi => h i (by omega)), h n (by omega)]; rfl
theorem cnt_pos {n : Nat} {f : Nat → Bool} (h : cnt n f ≠ 0) : ∃ i, i < n ∧ f i = true := by
  apply Classical.byContradiction
  intro hn
  refine h (cnt_zero fun i hi => ?_)
  cases hf : f i with
  | false => rfl
  | true => exact absurd ⟨i, hi, hf⟩ hn
def inY (ys : List Int) (y : Int) (i : Nat) : Bool := decide (yr ys i = y)
/-- What the renewals of a year leave. -/
structure YearIs (ws : List (Int × Int)) (y : Int) (p : Nat) (ys ys' : List Int) : Prop where
  len : ys'.length = ws.length
  kept : ∀ i, i < ws.length → yr ys' i = yr ys i ∨ yr ys i < 0 ∧ yr ys' i = y ∧ A ws i ≤ y
  cnt : cnt ws.length (inY ys' y) ≤ cnt ws.length (inY ys y) + p
  full : ∀ i, i < ws.length → pend ws ys' y i = true → Ren.cnt ws.length (inY ys' y) = Ren.cnt ws.length (inY ys y) + p ∧ ∀ j, j < ws.length → yr ys' j = y → yr ys j ≠ y → B ws j ≤ B ws i
theorem pend_iff {ws : List (Int × Int)} {ys : List Int} {y : Int} {i : Nat} : pend ws ys y i = true ↔ yr ys i < 0 ∧ A ws i ≤ y := by simp [pend]
theorem year_is (ws : List (Int × Int)) {y : Int} (hy : 0 ≤ y) : ∀ (p : Nat) (ys : List Int), ys.length = ws.length → YearIs ws y p ys (yearGo ws y p ys)
  | 0, ys, h => ⟨h, fun _ _ => .inl rfl, Nat.le_refl _, fun _ _ _ => ⟨rfl, fun _ _ h1 h2 => absurd h1 h2⟩⟩
  | p + 1, ys, h => by
    have hp := pick_is ws ys y
    rw [yearGo]
    cases hk : pick ws ys y with
    | none =>
      rw [hk] at hp
      refine ⟨h, fun _ _ => .inl rfl, by simp only; omega, fun i hi hpe => ?_⟩
      rw [hp i hi] at hpe; cases hpe
    | some k =>
      rw [hk] at hp
      obtain ⟨h1, h2, h3⟩ := hp
      obtain ⟨h2a, h2b⟩ := pend_iff.1 h2
      have hset : ∀ i, yr (ys.set k y) i = if k = i then y else yr ys i := fun i => yr_set (by omega)
      have r := year_is ws hy p (ys.set k y) (by simpa using h)
      have hc : Ren.cnt ws.length (inY (ys.set k y) y) = Ren.cnt ws.length (inY ys y) + 1 := by
        refine cnt_one h1 (fun i _ hn => ?_) ?_ ?_
        · unfold inY; rw [hset, if_neg (Ne.symm hn)]
        · unfold inY; simp; omega
        · unfold inY; rw [hset, if_pos rfl]; simp
      simp only
      refine ⟨r.len, fun i hi => ?_, by have := r.cnt; omega, fun i hi hpe => ?_⟩
      · rcases r.kept i hi with q | ⟨q1, q2, q3⟩
        · rw [q, hset]
          by_cases e : k = i
          · subst e; rw [if_pos rfl]; exact .inr ⟨h2a, rfl, h2b⟩
          · rw [if_neg e]; exact .inl rfl
        · rw [hset] at q1
          by_cases e : k = i
          · subst e; rw [if_pos rfl] at q1; omega
          · rw [if_neg e] at q1; exact .inr ⟨q1, q2, q3⟩
      · obtain ⟨f1, f2⟩ := r.full i hi hpe
        refine ⟨by omega, fun j hj hj1 hj2 => ?_⟩
        by_cases e : k = j
        · subst e
          obtain ⟨g1, g2⟩ := pend_iff.1 hpe
          have hpi : pend ws ys y i = true := by
            refine pend_iff.2 ⟨?_, g2⟩
            rcases r.kept i hi with q | ⟨q1, q2, q3⟩
            · rw [q, hset] at g1
              by_cases e : k = i
              · subst e; rw [if_pos rfl] at g1; omega
              · rw [if_neg e] at g1; exact g1
            · rw [q2] at g1; omega
          have := h3 i hi hpi
          unfold urg at this
          omega
        · exact f2 j hj hj1 (by rw [hset, if_neg e]; exact hj2)
/-- What holds ahead of year y. -/
structure StIs (ws : List (Int × Int)) (p : Nat) (y : Int) (ys : List Int) : Prop where
  len : ys.length = ws.length
  rng : ∀ i, i < ws.length → yr ys i = -1 ∨ 0 ≤ yr ys i ∧ yr ys i < y ∧ A ws i ≤ yr ys i
  cnt : ∀ t, 0 ≤ t → cnt ws.length (inY ys t) ≤ p
  full : ∀ i, i < ws.length → ∀ t, 0 ≤ t → t < y → A ws i ≤ t → (yr ys i < 0 ∨ t < yr ys i) → Ren.cnt ws.length (inY ys t) = p ∧ ∀ j, j < ws.length → yr ys j = t → B ws j ≤ B ws i
theorem state_is (ws : List (Int × Int)) (p : Nat) : ∀ y : Nat, StIs ws p y (stateAt ws p y)
  | 0 => by
    have h : ∀ i, yr (List.replicate ws.length (-1)) i = -1 := by
      intro i
      unfold yr
      rw [List.getElem?_replicate]
      split <;> rfl
    refine ⟨by simp [stateAt], fun i _ => .inl (h i), fun t ht => ?_, fun i _ t ht hty => by omega⟩
    rw [cnt_zero]
    · omega
    · intro i _
      simp [inY, stateAt, h]
      omega
  | y + 1 => by
    have s := state_is ws p y
    have r := year_is ws (y := (y : Int)) (by omega) p (stateAt ws p y) s.len
    have hs : stateAt ws p (y + 1) = yearGo ws y p (stateAt ws p y) := rfl
    rw [← hs] at r
    generalize stateAt ws p (y + 1) = ys' at *
    generalize stateAt ws p y = ys at *
    have hz : Ren.cnt ws.length (inY ys y) = 0 := cnt_zero fun i hi => by
      have := s.rng i hi
      simp [inY]; omega
    have hold : ∀ t, 0 ≤ t → t < (y : Int) → ∀ i, i < ws.length → inY ys' t i = inY ys t i := fun t h0 ht i hi => by
      unfold inY
      rcases r.kept i hi with q | ⟨q1, q2, q3⟩
      · rw [q]
      · rw [q2, decide_eq_false (by omega), decide_eq_false (by omega)]
    refine ⟨r.len, fun i hi => ?_, fun t ht => ?_, fun i hi t ht hty ha hp => ?_⟩
    · have q0 := s.rng i hi
      rcases r.kept i hi with q | ⟨q1, q2, q3⟩
      · rw [q]; omega
      · rw [q2]; omega
    · rcases Int.lt_trichotomy t y with q | q | q
      · rw [cnt_congr (hold t ht q)]; exact s.cnt t ht
      · subst q; have := r.cnt; omega
      · rw [cnt_zero]
        · omega
        · intro i hi
          have q0 := s.rng i hi
          rcases r.kept i hi with q1 | ⟨q1, q2, q3⟩
          · simp [inY, q1]; omega
          · simp [inY, q2]; omega
    · rcases Int.lt_or_le t y with q | q
      · have hpe : yr ys i < 0 ∨ t < yr ys i := by
          rcases r.kept i hi with q1 | ⟨q1, q2, q3⟩
          · rw [q1] at hp; exact hp
          · exact .inl q1
        obtain ⟨f1, f2⟩ := s.full i hi t ht q ha hpe
        refine ⟨by rw [cnt_congr (hold t ht q)]; exact f1, fun j hj hjt => f2 j hj ?_⟩
        have := hold t ht q j hj
        unfold inY at this
        rw [hjt] at this
        simpa using this.symm
      · have e : t = y := by omega
        subst e
        have hpe : pend ws ys' y i = true := by
          refine pend_iff.2 ⟨?_, ha⟩
          have q0 := s.rng i hi
          rcases r.kept i hi with q1 | ⟨q1, q2, q3⟩
          · rw [q1] at hp ⊢; omega
          · rw [q2] at hp; omega
        obtain ⟨f1, f2⟩ := r.full i hi hpe
        refine ⟨by omega, fun j hj hjt => f2 j hj hjt ?_⟩
        have := s.rng j hj
        omega
end Ren
