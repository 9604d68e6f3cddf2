import Derived.Test.YtnijfndpefkoeaaRenP
namespace Ren
/-- What holds ahead of year y of the specification's plan. -/
structure PnAt (ws : List (Int × Int)) (p : Nat) (y : Nat) (ys : List Int) (ok : Bool) : Prop where
  st : ys = stateAt ws p y
  okd : ok = true ↔ ∀ i, i < ws.length → 0 ≤ yr ys i → yr ys i ≤ B ws i
/-- What holds within year y, behind n renewals. -/
structure PnIn (ws : List (Int × Int)) (p : Nat) (y n : Nat) (ys : List Int) (ok : Bool) : Prop where
  len : ys.length = ws.length
  np : n ≤ p
  go : yearGo ws y (p - n) ys = stateAt ws p (y + 1)
  okd : ok = true ↔ ∀ i, i < ws.length → 0 ≤ yr ys i → yr ys i ≤ B ws i
theorem pn_zero (ws : List (Int × Int)) (p : Nat) : PnAt ws p 0 (List.replicate ws.length (-1)) true := by
  have h : ∀ i, yr (List.replicate ws.length (-1)) i = -1 := by
    intro i
    unfold yr
    rw [List.getElem?_replicate]
    split <;> rfl
  exact ⟨rfl, fun _ i _ h0 => by rw [h] at h0; omega, fun _ => rfl⟩
theorem pn_len {ws : List (Int × Int)} {p y : Nat} {ys : List Int} {ok : Bool} (h : PnAt ws p y ys ok) : ys.length = ws.length := by rw [h.st]; exact (state_is ws p y).len
theorem pn_start {ws : List (Int × Int)} {p y : Nat} {ys : List Int} {ok : Bool} (h : PnAt ws p y ys ok) : PnIn ws p y 0 ys ok := ⟨pn_len h, Nat.zero_le _, by rw [h.st]; rfl, h.okd⟩
theorem pick_facts {ws : List (Int × Int)} {ys : List Int} {y : Int} {k : Nat} (h : pick ws ys y = some k) : k < ws.length ∧ yr ys k < 0 ∧ A ws k ≤ y := by
  have := pick_is ws ys y
  rw [h] at this
  exact ⟨this.1, pend_iff.1 this.2.1⟩
theorem pick_no {ws : List (Int × Int)} {ys : List Int} {y : Int} (h : pick ws ys y = none) : ∀ i, i < ws.length → pend ws ys y i = false := by
  have := pick_is ws ys y
  rw [h] at this
  exact this
theorem pn_next {ws : List (Int × Int)} {p y n k : Nat} {ys : List Int} {ok : Bool} (h : PnIn ws p y n ys ok) (hn : n < p) (hk : pick ws ys y = some k) : PnIn ws p y (n + 1) (ys.set k y) (ok && decide ((y : Int) ≤ B ws k)) := by
  obtain ⟨k1, k2, k3⟩ := pick_facts hk
  have hkl : k < ys.length := by rw [h.len]; exact k1
  refine ⟨by rw [List.length_set]; exact h.len, hn, ?_, ?_⟩
  · rw [← h.go, show p - n = (p - (n + 1)) + 1 by omega, yearGo, hk]
  · rw [Bool.and_eq_true, decide_eq_true_eq, h.okd]
    constructor
    · rintro ⟨h1, h2⟩ i hi h0
      rw [yr_set hkl] at h0 ⊢
      by_cases e : k = i
      · subst e; rw [if_pos rfl]; exact h2
      · rw [if_neg e] at h0 ⊢; exact h1 i hi h0
    · intro h1
      refine ⟨fun i hi h0 => ?_, ?_⟩
      · have hne : k ≠ i := fun e => by subst e; omega
        have := h1 i hi (by rw [yr_set hkl, if_neg hne]; exact h0)
        rw [yr_set hkl, if_neg hne] at this
        exact this
      · have := h1 k k1 (by rw [yr_set hkl, if_pos rfl]; omega)
        rw [yr_set hkl, if_pos rfl] at this
        exact this
theorem pn_left {ws : List (Int × Int)} {p y n k : Nat} {ys : List Int} {ok : Bool} (h : PnIn ws p y n ys ok) (hk : pick ws ys y = some k) : left ws ys = left ws (ys.set k y) + 1 :=
  left_set (pick_facts hk).1 h.len (pick_facts hk).2.1 (by omega)
theorem pn_end {ws : List (Int × Int)} {p y n : Nat} {ys : List Int} {ok : Bool} (h : PnIn ws p y n ys ok) (he : n = p ∨ pick ws ys y = none) : PnAt ws p (y + 1) ys ok := by
  refine ⟨?_, h.okd⟩
  rw [← h.go]
  rcases he with e | e
  · rw [e, Nat.sub_self]; rfl
  · exact (pend_none (pick_no e) _).symm
/-- Years in which nothing can be renewed are passed over. -/
theorem pn_jump {ws : List (Int × Int)} {p y : Nat} {ys : List Int} {ok : Bool} (h : PnAt ws p y ys ok) (z : Nat) (hz : ∀ i, i < ws.length → yr ys i < 0 → (z : Int) ≤ A ws i) (hle : y ≤ z) : PnAt ws p z ys ok := by
  have key : ∀ k, y + k ≤ z → stateAt ws p (y + k) = ys := by
    intro k
    induction k with
    | zero => intro _; exact h.st.symm
    | succ k ih =>
      intro hk
      show yearGo ws ((y + k : Nat) : Int) p (stateAt ws p (y + k)) = ys
      rw [ih (by omega)]
      refine pend_none (fun i hi => ?_) p
      rw [← Bool.not_eq_true, pend_iff]
      rintro ⟨q1, q2⟩
      have := hz i hi q1
      omega
  exact ⟨by have := key (z - y) (by omega); rw [show y + (z - y) = z by omega] at this; exact this.symm, h.okd⟩
theorem pn_done {ws : List (Int × Int)} {p y : Nat} {ys : List Int} {ok : Bool} (h : PnAt ws p y ys ok) (h0 : left ws ys = 0) (hy : y ≤ lastY ws) : planF ws p = if ok = true then some ys else none := by
  have e : schedF ws p = ys := by
    unfold schedF
    have h1 := h0
    rw [h.st] at h1
    have := state_stays h1 (lastY ws - y)
    rw [show y + (lastY ws - y) = lastY ws by omega] at this
    rw [this, h.st]
  have hl : lateB ws ys = false ↔ ok = true := by
    rw [late_iff, h.okd]
    exact ⟨fun q i hi _ => q i hi, fun q i hi => q i hi (left_zero h0 i hi)⟩
  unfold planF
  rw [e]
  by_cases q : ok = true
  · rw [if_pos q, if_pos (hl.2 q)]
  · rw [if_neg q, if_neg (fun r => q (hl.1 r))]
/-- The least year in which a window of a medium without a year begins, at most 20000; i: the media that have been looked at. -/
def minA (ws : List (Int × Int)) (ys : List Int) : Nat → Int
  | 0 => 20000
  | i + 1 => if yr ys i < 0 ∧ A ws i < minA ws ys i then A ws i else minA ws ys i
theorem minA_le {ws : List (Int × Int)} {ys : List Int} : ∀ (n i : Nat), i < n → yr ys i < 0 → minA ws ys n ≤ A ws i
  | 0, i, h, _ => by omega
  | n + 1, i, h, hy => by
    rw [minA]
    by_cases e : i = n
    · subst e
      split
      · omega
      · rename_i q
        have : ¬ A ws i < minA ws ys i := fun r => q ⟨hy, r⟩
        omega
    · have := minA_le (ws := ws) n i (by omega) hy
      split
      · rename_i q; omega
      · exact this
theorem minA_top {ws : List (Int × Int)} {ys : List Int} : ∀ n, minA ws ys n ≤ 20000
  | 0 => Int.le_refl _
  | n + 1 => by
    rw [minA]
    have := minA_top (ws := ws) (ys := ys) n
    split
    · rename_i q; omega
    · exact this
theorem minA_is {ws : List (Int × Int)} {ys : List Int} : ∀ n, minA ws ys n = 20000 ∨ ∃ i, i < n ∧ yr ys i < 0 ∧ A ws i = minA ws ys n
  | 0 => .inl rfl
  | n + 1 => by
    rw [minA]
    split
    · rename_i q; exact .inr ⟨n, by omega, q.1, rfl⟩
    · rcases minA_is (ws := ws) (ys := ys) n with h | ⟨i, a, b, c⟩
      · exact .inl h
      · exact .inr ⟨i, by omega, b, c⟩
theorem left_some {ws : List (Int × Int)} {ys : List Int} (h : 0 < left ws ys) : ∃ i, i < ws.length ∧ yr ys i < 0 := by
  obtain ⟨i, hi, h2⟩ := cnt_pos (n := ws.length) (f := fun i => decide (yr ys i < 0)) (by unfold left at h; omega)
  exact ⟨i, hi, by simpa using h2⟩
/-- The next year, and that something can be renewed in it. -/
theorem pn_skip {ws : List (Int × Int)} {p y : Nat} {ys : List Int} {ok : Bool} (k2 : Ok2 ws) (h : PnAt ws p y ys ok) (hl : 0 < left ws ys) (hz : ∀ i, i < ws.length → yr ys i < 0 → (y : Int) ≤ A ws i) :
    ∃ z : Nat, minA ws ys ws.length = z ∧ z ≤ 20000 ∧ PnAt ws p z ys ok ∧ ∃ i, i < ws.length ∧ pend ws ys z i = true := by
  obtain ⟨j, hj, hjy⟩ := left_some hl
  have h0 : (y : Int) ≤ minA ws ys ws.length := by
    rcases minA_is (ws := ws) (ys := ys) ws.length with e | ⟨i, a, b, c⟩
    · have h1 := k2.top j hj
      have h2 := hz j hj hjy
      omega
    · rw [← c]; exact hz i a b
  have ht := minA_top (ws := ws) (ys := ys) ws.length
  obtain ⟨z, hzz⟩ : ∃ z : Nat, minA ws ys ws.length = z := ⟨(minA ws ys ws.length).toNat, by omega⟩
  refine ⟨z, hzz, by omega, pn_jump h z (fun i hi hy => by rw [← hzz]; exact minA_le _ i hi hy) (by omega), ?_⟩
  rcases minA_is (ws := ws) (ys := ys) ws.length with e | ⟨i, a, b, c⟩
  · have h1 := k2.top j hj
    exact ⟨j, hj, pend_iff.2 ⟨hjy, by omega⟩⟩
  · exact ⟨i, a, pend_iff.2 ⟨b, by omega⟩⟩
/-- The scan for the most urgent medium. -/
def pickTo (ws : List (Int × Int)) (ys : List Int) (y : Int) (n : Nat) : Option Nat := (List.range n).foldl (pickStep ws ys y) none
theorem pickTo_zero (ws : List (Int × Int)) (ys : List Int) (y : Int) : pickTo ws ys y 0 = none := rfl
theorem pickTo_succ (ws : List (Int × Int)) (ys : List Int) (y : Int) (n : Nat) : pickTo ws ys y (n + 1) = pickStep ws ys y (pickTo ws ys y n) n := by
  unfold pickTo
  rw [List.range_succ, List.foldl_append]
  rfl
theorem pickTo_all (ws : List (Int × Int)) (ys : List Int) (y : Int) : pickTo ws ys y ws.length = pick ws ys y := rfl
theorem pickTo_lt {ws : List (Int × Int)} {ys : List Int} {y : Int} {n k : Nat} (h : pickTo ws ys y n = some k) : k < n := by
  have := pick_to ws ys y n
  unfold pickTo at h
  rw [h] at this
  exact this.1
/-- The number that stands for it: -1 for none. -/
def pickI : Option Nat → Int
  | none => -1
  | some k => k
end Ren
