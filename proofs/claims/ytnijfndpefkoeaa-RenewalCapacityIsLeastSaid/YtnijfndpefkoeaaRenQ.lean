import Derived.Test.YtnijfndpefkoeaaRenH
namespace Ren
/-- An element of the queue: the end of a window, and the number of the medium. -/
abbrev E := Int × Int
def lessE (a b : E) : Bool := decide (a.1 < b.1) || (decide (a.1 = b.1) && decide (a.2 < b.2))
theorem less_iff {a b : E} : lessE a b = true ↔ a.1 < b.1 ∨ a.1 = b.1 ∧ a.2 < b.2 := by simp [lessE]
theorem less_no {a b : E} : lessE a b = false ↔ b.1 < a.1 ∨ a.1 = b.1 ∧ b.2 ≤ a.2 := by
  rw [← Bool.not_eq_true, less_iff]
  omega
theorem less_trans {a b c : E} (h1 : lessE b a = false) (h2 : lessE c b = false) : lessE c a = false := by rw [less_no] at *; omega
theorem less_asymm {a b : E} (h : lessE a b = true) : lessE b a = false := by rw [less_iff] at h; rw [less_no]; omega
def atE (q : List E) (i : Nat) : E := q[i]?.getD (0, 0)
theorem at_get {q : List E} {i : Nat} (h : i < q.length) : q[i]? = some (atE q i) := by unfold atE; rw [List.getElem?_eq_getElem h]; rfl
def swapE (q : List E) (i j : Nat) : List E := (q.set i (atE q j)).set j (atE q i)
theorem swap_len (q : List E) (i j : Nat) : (swapE q i j).length = q.length := by simp [swapE]
theorem swap_at {q : List E} {i j : Nat} (hi : i < q.length) (hj : j < q.length) (k : Nat) : atE (swapE q i j) k = if k = j then atE q i else if k = i then atE q j else atE q k := by
  unfold swapE
  conv => lhs; unfold atE
  rw [List.getElem?_set, List.getElem?_set, List.length_set]
  by_cases h1 : j = k
  · rw [if_pos h1, if_pos hj, if_pos h1.symm]; rfl
  · have h1' : ¬ k = j := fun q => h1 q.symm
    rw [if_neg h1, if_neg h1']
    by_cases h2 : i = k
    · rw [if_pos h2, if_pos hi, if_pos h2.symm]; rfl
    · have h2' : ¬ k = i := fun q => h2 q.symm
      rw [if_neg h2, if_neg h2']; rfl
theorem swap_perm {q : List E} {i j : Nat} (hi : i < q.length) (hj : j < q.length) : (swapE q i j).Perm q := by
  have h := List.set_set_perm hi hj
  unfold swapE
  have e1 : atE q j = q[j] := by unfold atE; rw [List.getElem?_eq_getElem hj]; rfl
  have e2 : atE q i = q[i] := by unfold atE; rw [List.getElem?_eq_getElem hi]; rfl
  rw [e1, e2]
  exact h
def par (i : Nat) : Nat := (i - 1) / 2
def Heap (q : List E) (n : Nat) : Prop := ∀ i, 0 < i → i < n → lessE (atE q i) (atE q (par i)) = false
/-- A heap but for the place j, which may stand too low. -/
structure UpAt (q : List E) (j : Nat) : Prop where
  lt : j < q.length
  a : ∀ i, 0 < i → i < q.length → i ≠ j → lessE (atE q i) (atE q (par i)) = false
  b : ∀ i, 0 < i → i < q.length → par i = j → 0 < j → lessE (atE q i) (atE q (par j)) = false
theorem up_zero {q : List E} (h : UpAt q 0) : Heap q q.length := fun i h0 hi => h.a i h0 hi (by omega)
theorem up_stop {q : List E} {j : Nat} (h : UpAt q j) (hl : lessE (atE q j) (atE q (par j)) = false) : Heap q q.length := fun i h0 hi => by
  by_cases e : i = j
  · subst e; exact hl
  · exact h.a i h0 hi e
theorem up_swap {q : List E} {j : Nat} (h : UpAt q j) (h0 : 0 < j) (hl : lessE (atE q j) (atE q (par j)) = true) : UpAt (swapE q (par j) j) (par j) := by
  have hj := h.lt
  have hpj : par j < j := by unfold par; omega
  have hp : par j < q.length := by omega
  have hs := swap_at hp hj
  refine ⟨by rw [swap_len]; exact hp, fun i i0 hi hne => ?_, fun i i0 hi hpi p0 => ?_⟩
  · rw [swap_len] at hi
    by_cases e : i = j
    · subst e
      rw [hs, if_pos rfl, hs, if_neg (by omega), if_pos rfl]
      exact less_asymm hl
    · rw [hs i, if_neg e, if_neg hne]
      by_cases e1 : par i = par j
      · rw [hs, e1, if_neg (by omega), if_pos rfl]
        have h1 := h.a i i0 hi e
        rw [e1] at h1
        exact less_trans (less_asymm hl) h1
      · by_cases e2 : par i = j
        · rw [hs, e2, if_pos rfl]
          exact h.b i i0 hi e2 h0
        · rw [hs, if_neg e2, if_neg e1]
          exact h.a i i0 hi e
  · rw [swap_len] at hi
    have hpp : par (par j) < par j := by have : par (par j) = (par j - 1) / 2 := rfl; omega
    rw [hs (par (par j)), if_neg (by omega), if_neg (by omega)]
    have h1 := h.a (par j) p0 hp (by omega)
    by_cases e : i = j
    · subst e
      rw [hs, if_pos rfl]
      exact h1
    · have hip : i ≠ par j := by have : par i = (i - 1) / 2 := rfl; omega
      rw [hs, if_neg e, if_neg hip]
      have h2 := h.a i i0 hi e
      rw [hpi] at h2
      exact less_trans h1 h2
/-- A heap of n places but for the place i, which may stand too high. -/
structure DnAt (q : List E) (i n : Nat) : Prop where
  lt : n ≤ q.length
  a : ∀ k, 0 < k → k < n → par k ≠ i → lessE (atE q k) (atE q (par k)) = false
  b : ∀ k, 0 < k → k < n → par k = i → 0 < i → lessE (atE q k) (atE q (par i)) = false
theorem dn_leaf {q : List E} {i n : Nat} (h : DnAt q i n) (hl : n ≤ 2 * i + 1) : Heap q n := fun k k0 hk => h.a k k0 hk (by unfold par; omega)
/-- The least child. -/
def Child (q : List E) (i n j : Nat) : Prop := 0 < j ∧ j < n ∧ par j = i ∧ ∀ k, 0 < k → k < n → par k = i → lessE (atE q k) (atE q j) = false
theorem child_left {q : List E} {i n : Nat} (h : 2 * i + 1 < n) (hr : n ≤ 2 * i + 2 ∨ lessE (atE q (2 * i + 2)) (atE q (2 * i + 1)) = false) : Child q i n (2 * i + 1) := by
  refine ⟨by omega, h, by unfold par; omega, fun k k0 hk hp => ?_⟩
  have : k = 2 * i + 1 ∨ k = 2 * i + 2 := by unfold par at hp; omega
  rcases this with e | e
  · subst e; rw [less_no]; omega
  · subst e
    rcases hr with q | q
    · omega
    · exact q
theorem child_right {q : List E} {i n : Nat} (h : 2 * i + 2 < n) (hr : lessE (atE q (2 * i + 2)) (atE q (2 * i + 1)) = true) : Child q i n (2 * i + 2) := by
  refine ⟨by omega, h, by unfold par; omega, fun k k0 hk hp => ?_⟩
  have : k = 2 * i + 1 ∨ k = 2 * i + 2 := by unfold par at hp; omega
  rcases this with e | e
  · subst e; exact less_asymm hr
  · subst e; rw [less_no]; omega
theorem dn_stop {q : List E} {i n j : Nat} (h : DnAt q i n) (hc : Child q i n j) (hl : lessE (atE q j) (atE q i) = false) : Heap q n := fun k k0 hk => by
  by_cases e : par k = i
  · rw [e]; exact less_trans hl (hc.2.2.2 k k0 hk e)
  · exact h.a k k0 hk e
theorem dn_swap {q : List E} {i n j : Nat} (h : DnAt q i n) (hc : Child q i n j) (hl : lessE (atE q j) (atE q i) = true) : DnAt (swapE q i j) j n := by
  obtain ⟨j0, jn, hpj, hmin⟩ := hc
  have hij : i < j := by unfold par at hpj; omega
  have hlt := h.lt
  have hs := swap_at (q := q) (i := i) (j := j) (by omega) (by omega)
  refine ⟨by rw [swap_len]; exact hlt, fun k k0 hk hne => ?_, fun k k0 hk hpk _ => ?_⟩
  · by_cases e : k = j
    · subst e
      rw [hpj, hs, if_pos rfl, hs, if_neg (by omega), if_pos rfl]
      exact less_asymm hl
    · by_cases e1 : k = i
      · subst e1
        have hpi : par k < k := by unfold par; omega
        rw [hs, if_neg e, if_pos rfl, hs, if_neg (by omega), if_neg (by omega)]
        exact h.b j j0 jn hpj k0
      · rw [hs k, if_neg e, if_neg e1]
        by_cases e2 : par k = i
        · rw [hs, e2, if_neg (by omega), if_pos rfl]
          exact hmin k k0 hk e2
        · rw [hs, if_neg hne, if_neg e2]
          exact h.a k k0 hk e2
  · have hjk : j < k := by have : par k = (k - 1) / 2 := rfl; omega
    rw [hs k, if_neg (by omega), if_neg (by omega), hpj, hs, if_neg (by omega), if_pos rfl]
    have := h.a k k0 hk (by omega)
    rw [hpk] at this
    exact this
theorem heap_min {q : List E} {n : Nat} (h : Heap q n) : ∀ i, i < n → lessE (atE q i) (atE q 0) = false := by
  intro i
  induction i using Nat.strongRecOn with
  | _ i ih =>
    intro hi
    by_cases h0 : i = 0
    · subst h0; rw [less_no]; omega
    · have hp : par i < i := by unfold par; omega
      exact less_trans (ih (par i) hp (by omega)) (h i (by omega) hi)
/-- An element more at the end. -/
theorem up_push {q : List E} (h : Heap q q.length) (x : E) : UpAt (q ++ [x]) q.length := by
  have old : ∀ k, k < q.length → atE (q ++ [x]) k = atE q k := fun k hk => by unfold atE; rw [List.getElem?_append_left hk]
  refine ⟨by simp, fun i i0 hi hne => ?_, fun i i0 hi hp p0 => ?_⟩
  · have hl : i < q.length := by rw [List.length_append] at hi; simp at hi; omega
    have hp : par i < q.length := by unfold par; omega
    rw [old i hl, old _ hp]
    exact h i i0 hl
  · rw [List.length_append] at hi
    unfold par at hp
    simp at hi
    omega
/-- The first element changes its place with the last one. -/
theorem dn_pop {q : List E} {n : Nat} (hl : q.length = n + 1) (h : Heap q q.length) : DnAt (swapE q 0 n) 0 n := by
  have hs := swap_at (q := q) (i := 0) (j := n) (by omega) (by omega)
  refine ⟨by rw [swap_len]; omega, fun k k0 hk hne => ?_, fun k k0 hk hpk h0 => absurd h0 (by omega)⟩
  have hp : par k < k := by unfold par; omega
  rw [hs k, if_neg (by omega), if_neg (by omega), hs, if_neg (by omega), if_neg hne]
  exact h k k0 (by omega)
theorem heap_take {q : List E} {n : Nat} (h : Heap q n) : Heap (q.take n) (q.take n).length := by
  intro i i0 hi
  rw [List.length_take] at hi
  have hp : par i < i := by unfold par; omega
  have old : ∀ k, k < n → atE (q.take n) k = atE q k := fun k hk => by unfold atE; rw [List.getElem?_take, if_pos hk]
  rw [old i (by omega), old _ (by omega)]
  exact h i i0 (by omega)
/-- What stands ahead of a round of down. -/
structure DnIs (q0 q : List E) (i n : Nat) : Prop where
  len : q.length = n + 1
  perm : q.Perm q0
  last : atE q n = atE q0 0
  dn : DnAt q i n
theorem dnis_zero {q : List E} {n : Nat} (hl : q.length = n + 1) (h : Heap q q.length) : DnIs q (swapE q 0 n) 0 n := by
  refine ⟨by rw [swap_len]; exact hl, swap_perm (by omega) (by omega), ?_, dn_pop hl h⟩
  rw [swap_at (by omega) (by omega), if_pos rfl]
theorem dnis_next {q0 q : List E} {i n j : Nat} (h : DnIs q0 q i n) (hc : Child q i n j) (hl : lessE (atE q j) (atE q i) = true) : DnIs q0 (swapE q i j) j n := by
  have hj := hc.2.1
  have hij : i < j := by have := hc.2.2.1; have := hc.1; unfold par at *; omega
  have hlen := h.len
  refine ⟨by rw [swap_len]; exact h.len, (swap_perm (by omega) (by omega)).trans h.perm, ?_, dn_swap h.dn hc hl⟩
  rw [swap_at (by omega) (by omega), if_neg (by omega), if_neg (by omega)]
  exact h.last
/-- The queue: each pending medium once. -/
structure Qs (ws : List (Int × Int)) (f : Nat → Bool) (q : List E) : Prop where
  heap : Heap q q.length
  nodup : q.Nodup
  mem : ∀ e : E, e ∈ q ↔ ∃ i, i < ws.length ∧ f i = true ∧ e = (B ws i, (i : Int))
theorem qs_nil (ws : List (Int × Int)) {f : Nat → Bool} (h : ∀ i, i < ws.length → f i = false) : Qs ws f [] := by
  refine ⟨fun i _ hi => by simp at hi, List.nodup_nil, fun e => ?_⟩
  constructor
  · intro q; simp at q
  · rintro ⟨i, h1, h2, _⟩
    rw [h i h1] at h2; cases h2
theorem qs_congr {ws : List (Int × Int)} {f g : Nat → Bool} {q : List E} (h : Qs ws f q) (e : ∀ i, i < ws.length → f i = g i) : Qs ws g q :=
  ⟨h.heap, h.nodup, fun x => by
    rw [h.mem]
    exact ⟨fun ⟨i, a, b, c⟩ => ⟨i, a, by rw [← e i a]; exact b, c⟩, fun ⟨i, a, b, c⟩ => ⟨i, a, by rw [e i a]; exact b, c⟩⟩⟩
/-- After a push: one more. -/
theorem qs_push {ws : List (Int × Int)} {f : Nat → Bool} {q q2 : List E} {k : Nat} (h : Qs ws f q) (hk : k < ws.length) (hf : f k = false) (hp : q2.Perm (q ++ [(B ws k, (k : Int))])) (hh : Heap q2 q2.length) :
    Qs ws (fun i => f i || decide (i = k)) q2 := by
  refine ⟨hh, ?_, fun e => ?_⟩
  · rw [hp.nodup_iff, List.nodup_append]
    refine ⟨h.nodup, by simp, fun a ha b hb => ?_⟩
    rw [List.mem_singleton] at hb
    subst hb
    rintro rfl
    obtain ⟨i, h1, h2, h3⟩ := (h.mem _).1 ha
    have : i = k := by have := congrArg Prod.snd h3; simp at this; omega
    subst this
    rw [hf] at h2; cases h2
  · rw [hp.mem_iff, List.mem_append, h.mem, List.mem_singleton]
    constructor
    · rintro (⟨i, h1, h2, h3⟩ | rfl)
      · exact ⟨i, h1, by rw [h2]; rfl, h3⟩
      · exact ⟨k, hk, by simp, rfl⟩
    · rintro ⟨i, h1, h2, h3⟩
      rcases Bool.or_eq_true _ _ ▸ h2 with e | e
      · exact .inl ⟨i, h1, e, h3⟩
      · have : i = k := by simpa using e
        subst this
        exact .inr h3
/-- After a pop: the most urgent one is gone. -/
theorem qs_pop {ws : List (Int × Int)} {f : Nat → Bool} {q q2 : List E} {n : Nat} (h : Qs ws f q) (hl : q.length = n + 1) (d : DnIs q q2 0 n ∨ ∃ i, DnIs q q2 i n) (hh : Heap q2 n) :
    ∃ k, k < ws.length ∧ f k = true ∧ atE q2 n = (B ws k, (k : Int)) ∧ (∀ i, i < ws.length → f i = true → urg ws k i) ∧ Qs ws (fun i => f i && !decide (i = k)) (q2.take n) := by
  obtain ⟨i0, d⟩ : ∃ i, DnIs q q2 i n := by
    rcases d with d | d
    · exact ⟨0, d⟩
    · exact d
  have hmem : atE q 0 ∈ q := List.mem_of_getElem? (at_get (by omega))
  obtain ⟨k, hk, hfk, he⟩ := (h.mem _).1 hmem
  have hlast : atE q2 n = (B ws k, (k : Int)) := by rw [d.last, he]
  have hsplit : q2 = q2.take n ++ [atE q2 n] := by
    have h1 : q2.take (n + 1) = q2 := List.take_of_length_le (by rw [d.len]; omega)
    conv => lhs; rw [← h1]
    rw [List.take_add_one, at_get (by rw [d.len]; omega)]
    rfl
  have hnd : q2.Nodup := d.perm.nodup_iff.2 h.nodup
  refine ⟨k, hk, hfk, hlast, fun i hi hf => ?_, heap_take hh, ?_, fun e => ?_⟩
  · have hm : (B ws i, (i : Int)) ∈ q := (h.mem _).2 ⟨i, hi, hf, rfl⟩
    obtain ⟨j, hj, hje⟩ := List.getElem_of_mem hm
    have h1 := heap_min h.heap j hj
    have h2 : atE q j = (B ws i, (i : Int)) := by unfold atE; rw [List.getElem?_eq_getElem hj, hje]; rfl
    rw [h2, he, less_no] at h1
    unfold urg
    simp only at h1
    omega
  · rw [hsplit] at hnd
    exact (List.nodup_append.1 hnd).1
  · have hq : ∀ x : E, x ∈ q2 ↔ x ∈ q := fun x => d.perm.mem_iff
    have hn2 : (q2.take n ++ [atE q2 n]).Nodup := by rw [← hsplit]; exact hnd
    constructor
    · intro hm
      have h1 : e ∈ q := (hq e).1 (List.mem_of_mem_take hm)
      obtain ⟨i, i1, i2, i3⟩ := (h.mem _).1 h1
      refine ⟨i, i1, ?_, i3⟩
      rw [i2]
      have hne : i ≠ k := by
        rintro rfl
        have := (List.nodup_append.1 hn2).2.2 e hm (atE q2 n) (by simp)
        exact this (by rw [hlast, i3])
      simp [hne]
    · rintro ⟨i, i1, i2, i3⟩
      rw [Bool.and_eq_true] at i2
      have h1 : e ∈ q2 := (hq e).2 ((h.mem _).2 ⟨i, i1, i2.1, i3⟩)
      rw [hsplit] at h1
      rcases List.mem_append.1 h1 with q | q
      · exact q
      · rw [List.mem_singleton, hlast, i3] at q
        have : i = k := by have := congrArg Prod.snd q; simp at this; omega
        subst this
        simp at i2
end Ren
