import Derived.Test.YtnijfndpefkoeaaRenQ
namespace Ren
/-- The years as the program keeps them: 0 where there is none. -/
def pyOf (ys : List Int) : List Int := ys.map fun v => if v < 0 then 0 else v
theorem py_len (ys : List Int) : (pyOf ys).length = ys.length := by simp [pyOf]
theorem py_set (ys : List Int) (k : Nat) {y : Int} (hy : 0 ≤ y) : (pyOf ys).set k y = pyOf (ys.set k y) := by
  unfold pyOf
  rw [List.map_set, if_neg (by omega)]
theorem py_rep (n : Nat) : List.replicate n (0 : Int) = pyOf (List.replicate n (-1)) := by
  unfold pyOf
  rw [List.map_replicate]
  rfl
theorem py_done {ys : List Int} (h : ∀ i, i < ys.length → 0 ≤ yr ys i) : pyOf ys = ys := by
  unfold pyOf
  conv => rhs; rw [← List.map_id ys]
  refine List.map_congr_left fun v hv => ?_
  obtain ⟨i, hi, rfl⟩ := List.getElem_of_mem hv
  have := h i hi
  unfold yr at this
  rw [List.getElem?_eq_getElem hi] at this
  rw [if_neg (by simpa using this)]
  rfl
theorem left_zero {ws : List (Int × Int)} {ys : List Int} (h : left ws ys = 0) : ∀ i, i < ws.length → 0 ≤ yr ys i := by
  intro i hi
  rcases Int.lt_or_le (yr ys i) 0 with q | q
  · have h0 : cnt ws.length (fun j => decide (j = i)) ≤ left ws ys := cnt_mono fun j hj hm => by
      simp only [decide_eq_true_eq] at hm ⊢
      rw [hm]; exact q
    have h1 : cnt ws.length (fun j => decide (j = i)) = cnt ws.length (fun _ => false) + 1 := cnt_one hi (fun j _ hj => by simp [hj]) rfl (by simp)
    omega
  · exact q
theorem left_set {ws : List (Int × Int)} {ys : List Int} {k : Nat} {y : Int} (hk : k < ws.length) (hl : ys.length = ws.length) (h : yr ys k < 0) (hy : 0 ≤ y) : left ws ys = left ws (ys.set k y) + 1 := by
  unfold left
  refine cnt_one hk (fun i _ hne => ?_) ?_ ?_
  · rw [yr_set (by omega), if_neg (fun q => hne q.symm)]
  · rw [yr_set (by omega), if_pos rfl]; simpa using hy
  · simpa using h
theorem left_le (ws : List (Int × Int)) (ys : List Int) : left ws ys ≤ ws.length := cnt_le _ _
/-- What holds within a year, behind the pushes: n of the renewals of year y are done. -/
structure YIn (ws : List (Int × Int)) (p : Nat) (y n : Nat) (ys : List Int) (q : List E) : Prop where
  len : ys.length = ws.length
  np : n ≤ p
  go : yearGo ws y (p - n) ys = stateAt ws p (y + 1)
  qs : Qs ws (pend ws ys y) q
  late : ∀ i, i < ws.length → 0 ≤ yr ys i → yr ys i ≤ B ws i
/-- What holds ahead of year y. -/
structure YAt (ws : List (Int × Int)) (p : Nat) (y : Nat) (ys : List Int) (q : List E) : Prop where
  st : ys = stateAt ws p y
  qs : Qs ws (pend ws ys ((y : Int) - 1)) q
  late : ∀ i, i < ws.length → 0 ≤ yr ys i → yr ys i ≤ B ws i
theorem yat_zero {ws : List (Int × Int)} (ok : Ok ws) (p : Nat) : YAt ws p 0 (List.replicate ws.length (-1)) [] := by
  have h : ∀ i, yr (List.replicate ws.length (-1)) i = -1 := by
    intro i
    unfold yr
    rw [List.getElem?_replicate]
    split <;> rfl
  refine ⟨rfl, qs_nil ws fun i hi => ?_, fun i _ h0 => by rw [h] at h0; omega⟩
  have := ok.lo i hi
  rw [← Bool.not_eq_true, pend_iff]
  omega
/-- The media whose windows begin in year y. -/
def begL (ws : List (Int × Int)) (y : Int) : List Nat := (List.range ws.length).filter fun i => decide (A ws i = y)
theorem beg_mem {ws : List (Int × Int)} {y : Int} {i : Nat} : i ∈ begL ws y ↔ i < ws.length ∧ A ws i = y := by simp [begL]
theorem beg_nodup (ws : List (Int × Int)) (y : Int) : (begL ws y).Nodup := List.Nodup.sublist List.filter_sublist List.nodup_range
/-- What holds in the course of the pushes of year y. -/
structure YPush (ws : List (Int × Int)) (p : Nat) (y k : Nat) (ys : List Int) (q : List E) : Prop where
  st : ys = stateAt ws p y
  qs : Qs ws (fun i => pend ws ys ((y : Int) - 1) i || decide (i ∈ (begL ws y).take k)) q
  late : ∀ i, i < ws.length → 0 ≤ yr ys i → yr ys i ≤ B ws i
theorem ypush_zero {ws : List (Int × Int)} {p y : Nat} {ys : List Int} {q : List E} (h : YAt ws p y ys q) : YPush ws p y 0 ys q :=
  ⟨h.st, qs_congr h.qs fun i _ => by simp, h.late⟩
theorem ypush_next {ws : List (Int × Int)} {p y k j : Nat} {ys : List Int} {q q2 : List E} (h : YPush ws p y k ys q) (hj : (begL ws y)[k]? = some j) (hp : q2.Perm (q ++ [(B ws j, (j : Int))])) (hh : Heap q2 q2.length) : YPush ws p y (k + 1) ys q2 := by
  have hm := beg_mem.1 (List.mem_of_getElem? hj)
  have hnd : ((begL ws y).take k ++ [j]).Nodup := by
    have h1 := (beg_nodup ws y).sublist (List.take_sublist (k + 1) _)
    rw [List.take_add_one, hj] at h1
    exact h1
  have hnot : j ∉ (begL ws y).take k := fun hin => (List.nodup_append.1 hnd).2.2 j hin j (by simp) rfl
  refine ⟨h.st, qs_congr (qs_push h.qs hm.1 ?_ hp hh) fun i _ => ?_, h.late⟩
  · have : pend ws ys ((y : Int) - 1) j = false := by
      rw [← Bool.not_eq_true, pend_iff]
      omega
    simp only [this, Bool.false_or]
    exact decide_eq_false hnot
  · rw [List.take_add_one, hj, Bool.or_assoc]
    congr 1
    rw [Bool.eq_iff_iff]
    simp
theorem ypush_end {ws : List (Int × Int)} {p y k : Nat} {ys : List Int} {q : List E} (h : YPush ws p y k ys q) (hk : (begL ws y).length ≤ k) : YIn ws p y 0 ys q := by
  have s := state_is ws p y
  rw [← h.st] at s
  refine ⟨s.len, Nat.zero_le _, by rw [h.st]; rfl, qs_congr h.qs fun i hi => ?_, h.late⟩
  rw [List.take_of_length_le hk, Bool.eq_iff_iff, Bool.or_eq_true, pend_iff, pend_iff, decide_eq_true_eq, beg_mem]
  have := s.rng i hi
  constructor
  · rintro (q | q) <;> omega
  · intro q
    by_cases e : A ws i = y
    · exact .inr ⟨hi, e⟩
    · exact .inl (by omega)
theorem ypick {ws : List (Int × Int)} {ys : List Int} {y : Int} {k : Nat} (hk : k < ws.length) (hp : pend ws ys y k = true) (hu : ∀ i, i < ws.length → pend ws ys y i = true → urg ws k i) : pick ws ys y = some k := pick_eq ⟨hk, hp, hu⟩
/-- One more renewal. -/
theorem yin_next {ws : List (Int × Int)} {p y n k : Nat} {ys : List Int} {q q2 : List E} (h : YIn ws p y n ys q) (hn : n < p) (hk : k < ws.length) (hp : pend ws ys y k = true) (hu : ∀ i, i < ws.length → pend ws ys y i = true → urg ws k i)
    (hq : Qs ws (fun i => pend ws ys y i && !decide (i = k)) q2) (hl : (y : Int) ≤ B ws k) : YIn ws p y (n + 1) (ys.set k y) q2 := by
  have hkl : k < ys.length := by rw [h.len]; exact hk
  refine ⟨by rw [List.length_set]; exact h.len, hn, ?_, qs_congr hq fun i hi => ?_, fun i hi h0 => ?_⟩
  · rw [← h.go, show p - n = (p - (n + 1)) + 1 by omega, yearGo, ypick hk hp hu]
  · unfold pend
    rw [yr_set hkl]
    by_cases e : k = i
    · subst e
      simp
      omega
    · rw [if_neg e]
      have : decide (i = k) = false := decide_eq_false (fun q => e q.symm)
      rw [this]
      simp
  · rw [yr_set hkl] at h0 ⊢
    by_cases e : k = i
    · subst e; rw [if_pos rfl]; exact hl
    · rw [if_neg e] at h0 ⊢; exact h.late i hi h0
theorem yin_left {ws : List (Int × Int)} {p y n k : Nat} {ys : List Int} {q : List E} (h : YIn ws p y n ys q) (hk : k < ws.length) (hp : pend ws ys y k = true) : left ws ys = left ws (ys.set k y) + 1 :=
  left_set hk h.len (pend_iff.1 hp).1 (by omega)
theorem pend_none {ws : List (Int × Int)} {ys : List Int} {y : Int} (h : ∀ i, i < ws.length → pend ws ys y i = false) (m : Nat) : yearGo ws y m ys = ys := by
  cases m with
  | zero => rfl
  | succ m => rw [yearGo, pick_eq (k := none) h]
theorem yin_end {ws : List (Int × Int)} {p y n : Nat} {ys : List Int} {q : List E} (h : YIn ws p y n ys q) (he : n = p ∨ q = []) : YAt ws p (y + 1) ys q := by
  have hs : ys = stateAt ws p (y + 1) := by
    rw [← h.go]
    rcases he with e | e
    · rw [e, Nat.sub_self]; rfl
    · refine (pend_none (fun i hi => ?_) _).symm
      cases hb : pend ws ys y i with
      | false => rfl
      | true =>
        have := (h.qs.mem _).2 ⟨i, hi, hb, rfl⟩
        rw [e] at this
        simp at this
  refine ⟨hs, qs_congr h.qs fun i _ => ?_, h.late⟩
  rw [show (((y + 1 : Nat) : Int) - 1) = (y : Int) by omega]
theorem go_keep {ws : List (Int × Int)} {y : Int} (hy : 0 ≤ y) {m : Nat} {ys : List Int} (hl : ys.length = ws.length) {i : Nat} (hi : i < ws.length) (h : 0 ≤ yr ys i) : yr (yearGo ws y m ys) i = yr ys i := by
  rcases (year_is ws hy m ys hl).kept i hi with q | ⟨q, _, _⟩
  · exact q
  · omega
theorem state_keep {ws : List (Int × Int)} {p y : Nat} {i : Nat} (hi : i < ws.length) (h : 0 ≤ yr (stateAt ws p y) i) : ∀ k, yr (stateAt ws p (y + k)) i = yr (stateAt ws p y) i
  | 0 => rfl
  | k + 1 => by
    have ih := state_keep hi h k
    show yr (yearGo ws ((y + k : Nat) : Int) p (stateAt ws p (y + k))) i = _
    rw [go_keep (by omega) (state_is ws p (y + k)).len hi (by rw [ih]; exact h), ih]
theorem year_top {ws : List (Int × Int)} {p y : Nat} (ok : Ok2 ws) (hp : 1 ≤ p) (h : 0 < left ws (stateAt ws p y)) : y < lastY ws := by
  rcases Nat.lt_or_ge y (lastY ws) with q | q
  · exact q
  · have := left_all (y := y) hp ok.top q
    omega
/-- One comes too late: there is no plan. -/
theorem yin_late {ws : List (Int × Int)} {p y n k : Nat} {ys : List Int} {q : List E} (h : YIn ws p y n ys q) (hn : n < p) (hk : k < ws.length) (hp : pend ws ys y k = true) (hu : ∀ i, i < ws.length → pend ws ys y i = true → urg ws k i)
    (hl : B ws k < y) (hy : y < lastY ws) : planF ws p = none := by
  have hkl : k < ys.length := by rw [h.len]; exact hk
  have e1 : stateAt ws p (y + 1) = yearGo ws y (p - (n + 1)) (ys.set k y) := by
    rw [← h.go, show p - n = (p - (n + 1)) + 1 by omega, yearGo, ypick hk hp hu]
  have e2 : yr (ys.set k (y : Int)) k = y := by rw [yr_set hkl, if_pos rfl]
  have e3 : yr (stateAt ws p (y + 1)) k = y := by
    rw [e1, go_keep (by omega) (by rw [List.length_set]; exact h.len) hk (by rw [e2]; omega), e2]
  have e4 := state_keep (p := p) (y := y + 1) hk (by rw [e3]; omega) (lastY ws - (y + 1))
  rw [show y + 1 + (lastY ws - (y + 1)) = lastY ws by omega, e3] at e4
  unfold planF
  rw [if_neg]
  intro hb
  have := late_iff.1 hb k hk
  unfold schedF at this
  omega
/-- All are renewed: this is the plan. -/
theorem yat_done {ws : List (Int × Int)} {p y : Nat} {ys : List Int} {q : List E} (h : YAt ws p y ys q) (h0 : left ws ys = 0) (hy : y ≤ lastY ws) : planF ws p = some (pyOf ys) ∧ pyOf ys = ys := by
  have hl := (state_is ws p y).len
  have hd := py_done (ys := ys) (fun i hi => left_zero h0 i (by rw [h.st, hl] at hi; exact hi))
  have e : schedF ws p = ys := by
    unfold schedF
    have h1 := h0
    rw [h.st] at h1
    have := state_stays h1 (lastY ws - y)
    rw [show y + (lastY ws - y) = lastY ws by omega] at this
    rw [this, h.st]
  refine ⟨?_, hd⟩
  unfold planF
  rw [e, hd, if_pos]
  refine late_iff.2 fun i hi => h.late i hi (left_zero h0 i hi)
end Ren
