import Derived.Test.YtbhcaniopdgjkaaLabel
namespace Plain
theorem sorted_eq : ∀ {a b : List Nat}, a.Pairwise (· < ·) → b.Pairwise (· < ·) → (∀ x, x ∈ a ↔ x ∈ b) → a = b
  | [], [], _, _, _ => rfl
  | [], y :: b, _, _, h => absurd ((h y).2 (by simp)) (by simp)
  | x :: a, [], _, _, h => absurd ((h x).1 (by simp)) (by simp)
  | x :: a, y :: b, ha, hb, h => by
    obtain ⟨ha1, ha2⟩ := List.pairwise_cons.1 ha
    obtain ⟨hb1, hb2⟩ := List.pairwise_cons.1 hb
    have e : x = y := by
      rcases List.mem_cons.1 ((h x).1 (by simp)) with q | q
      · exact q
      · rcases List.mem_cons.1 ((h y).2 (by simp)) with q' | q'
        · exact q'.symm
        · have := ha1 y q'; have := hb1 x q; omega
    subst e
    rw [sorted_eq ha2 hb2]
    intro z
    have hz := h z
    constructor
    · intro q
      have hzx := ha1 z q
      rcases List.mem_cons.1 (hz.1 (by simp [q])) with q' | q'
      · omega
      · exact q'
    · intro q
      have hzx := hb1 z q
      rcases List.mem_cons.1 (hz.2 (by simp [q])) with q' | q'
      · omega
      · exact q'
section
variable (adj : Nat → Nat → Bool) (n : Nat)
def compL (i : Nat) : List Nat := (List.range n).filter fun k => (visit adj n n i []).contains k
theorem unseen_le (acc : List Nat) : unseen n acc ≤ n := by
  unfold unseen
  have := List.length_filter_le (fun k => !acc.contains k) (List.range n)
  simpa using this
theorem mem_compL (hs : ∀ i k, adj i k = adj k i) {i k : Nat} (hi : i < n) : k ∈ compL adj n i ↔ Conn adj n i k := by
  obtain ⟨g, h1, _, h3, _⟩ := visit_part adj n hs (acc := []) (unseen_le n []) hi (by simp) (by simp) List.nodup_nil (fun x hx => by simp at hx)
  unfold compL
  rw [List.mem_filter, h1]
  simp only [List.nil_append, List.contains_eq_mem, decide_eq_true_eq, List.mem_range, h3]
  exact ⟨fun h => h.2, fun h => ⟨Conn.lt adj n hi h, h⟩⟩
theorem compL_sorted (i : Nat) : (compL adj n i).Pairwise (· < ·) := List.pairwise_lt_range.sublist List.filter_sublist
def minB (i : Nat) : Bool := (compL adj n i).all fun k => decide (i ≤ k)
theorem minB_iff (hs : ∀ i k, adj i k = adj k i) {i : Nat} (hi : i < n) : minB adj n i = true ↔ ∀ k, Conn adj n i k → i ≤ k := by
  simp only [minB, List.all_eq_true, decide_eq_true_eq]
  exact ⟨fun h k hk => h k ((mem_compL adj n hs hi).2 hk), fun h k hk => h k ((mem_compL adj n hs hi).1 hk)⟩
/-- The parts: for the least of each, its places. -/
def partsC : List (List Nat) := ((List.range n).filter (minB adj n)).map (compL adj n)
theorem closed_conn {acc : List Nat} (hc : Closed adj n acc) {i k : Nat} (hi : i ∈ acc) (h : Conn adj n i k) : k ∈ acc := by
  induction h with
  | refl => exact hi
  | step _ h2 h3 ih => exact hc _ ih _ h3 h2
def partsGo (sortf : List Nat → List Nat) : List Nat → List Nat → List (List Nat) → List (List Nat)
  | [], _, out => out
  | i :: is, seen, out => if seen.contains i then partsGo sortf is seen out else partsGo sortf is (visit adj n n i seen) (out ++ [sortf ((visit adj n n i seen).drop seen.length)])
theorem partsGo_eq (hs : ∀ i k, adj i k = adj k i) (sortf : List Nat → List Nat) (hsort : ∀ g, g.Nodup → (sortf g).Pairwise (· < ·) ∧ ∀ x, x ∈ sortf g ↔ x ∈ g) :
    ∀ (is pre seen : List Nat) (out : List (List Nat)), List.range n = pre ++ is → Closed adj n seen → (∀ x ∈ seen, x < n) → seen.Nodup → (∀ x, x ∈ seen ↔ ∃ j ∈ pre, Conn adj n j x) → out = (pre.filter (minB adj n)).map (compL adj n) → partsGo adj n sortf is seen out = partsC adj n
  | [], pre, seen, out, hr, _, _, _, _, ho => by
    rw [partsGo, ho, partsC, hr, List.append_nil]
  | i :: is, pre, seen, out, hr, hc, hl, hn, hm, ho => by
    have hi : i < n := by
      have : i ∈ List.range n := by rw [hr]; simp
      exact List.mem_range.1 this
    have hpw : (pre ++ i :: is).Pairwise (· < ·) := by rw [← hr]; exact List.pairwise_lt_range
    have hlt : ∀ j ∈ pre, j < i := fun j hj => (List.pairwise_append.1 hpw).2.2 j hj i (by simp)
    have hgt : ∀ j ∈ is, i < j := fun j hj => (List.pairwise_cons.1 (List.pairwise_append.1 hpw).2.1).1 j hj
    have hpre : ∀ k, k < i → k ∈ pre := fun k hk => by
      have : k ∈ pre ++ i :: is := by rw [← hr]; exact List.mem_range.2 (by omega)
      rcases List.mem_append.1 this with h | h
      · exact h
      · rcases List.mem_cons.1 h with h | h
        · omega
        · have := hgt k h; omega
    have hiff : i ∈ seen ↔ minB adj n i = false := by
      rw [hm]
      constructor
      · rintro ⟨j, hj, hcj⟩
        have hjn : j < n := Nat.lt_trans (hlt j hj) hi
        cases hb : minB adj n i with
        | false => rfl
        | true =>
          have := (minB_iff adj n hs hi).1 hb j (Conn.symm adj n hs hjn hcj)
          have := hlt j hj
          omega
      · intro hb
        have : ¬ ∀ k, Conn adj n i k → i ≤ k := fun h => by rw [(minB_iff adj n hs hi).2 h] at hb; cases hb
        have h2 : ∃ k, Conn adj n i k ∧ k < i := Classical.byContradiction fun hne => this fun k hk => Nat.le_of_not_lt fun hlt' => hne ⟨k, hk, hlt'⟩
        obtain ⟨k, hk, hki⟩ := h2
        exact ⟨k, hpre k hki, Conn.symm adj n hs hi hk⟩
    have hr2 : List.range n = (pre ++ [i]) ++ is := by rw [hr]; simp
    rw [partsGo]
    by_cases hseen : i ∈ seen
    · rw [if_pos (by simpa using hseen)]
      refine partsGo_eq hs sortf hsort is (pre ++ [i]) seen out hr2 hc hl hn (fun x => ?_) ?_
      · rw [hm]
        constructor
        · rintro ⟨j, hj, h⟩; exact ⟨j, by simp [hj], h⟩
        · rintro ⟨j, hj, h⟩
          rcases List.mem_append.1 hj with hj | hj
          · exact ⟨j, hj, h⟩
          · rw [List.mem_singleton.1 hj] at h
            exact (hm x).1 (closed_conn adj n hc hseen h)
      · rw [ho, List.filter_append]
        simp [hiff.1 hseen]
    · rw [if_neg (by simpa using hseen)]
      have hmin : minB adj n i = true := by
        cases hb : minB adj n i with
        | true => rfl
        | false => exact absurd (hiff.2 hb) hseen
      obtain ⟨g, h1, h2, h3, h4, h5, h6⟩ := visit_part adj n hs (acc := seen) (unseen_le n seen) hi hseen hl hn hc
      rw [h1, List.drop_left]
      have hg : sortf g = compL adj n i := sorted_eq (hsort g h2).1 (compL_sorted adj n i) fun x => by
        rw [(hsort g h2).2 x, h3, mem_compL adj n hs hi]
      refine partsGo_eq hs sortf hsort is (pre ++ [i]) (seen ++ g) _ hr2 h4 h5 h6 (fun x => ?_) ?_
      · rw [List.mem_append, hm, h3]
        constructor
        · rintro (⟨j, hj, h⟩ | h)
          · exact ⟨j, by simp [hj], h⟩
          · exact ⟨i, by simp, h⟩
        · rintro ⟨j, hj, h⟩
          rcases List.mem_append.1 hj with hj | hj
          · exact .inl ⟨j, hj, h⟩
          · rw [List.mem_singleton.1 hj] at h; exact .inr h
      · rw [ho, hg, List.filter_append]
        simp [hmin]
theorem parts_prog (hs : ∀ i k, adj i k = adj k i) (sortf : List Nat → List Nat) (hsort : ∀ g, g.Nodup → (sortf g).Pairwise (· < ·) ∧ ∀ x, x ∈ sortf g ↔ x ∈ g) : partsGo adj n sortf (List.range n) [] [] = partsC adj n :=
  partsGo_eq adj n hs sortf hsort (List.range n) [] [] [] (by simp) (fun x hx => by simp at hx) (by simp) List.nodup_nil (by simp) (by simp)
/-- The specification's parts, from the table of least neighbours. -/
def partsS (f : Nat → Nat) : List (List Nat) := (List.range n).filterMap fun i => if ((List.range n).filter fun k => f k == i) = [] then none else some ((List.range n).filter fun k => f k == i)
theorem filterMap_if {α β : Type} {f : α → Option β} {p : α → Bool} {g : α → β} : ∀ {l : List α}, (∀ a ∈ l, f a = if p a then some (g a) else none) → l.filterMap f = (l.filter p).map g
  | [], _ => rfl
  | a :: l, h => by
    rw [List.filterMap_cons, h a (by simp), List.filter_cons]
    cases hp : p a with
    | true => simp [filterMap_if (l := l) fun b hb => h b (by simp [hb])]
    | false => simp [filterMap_if (l := l) fun b hb => h b (by simp [hb])]
theorem parts_spec (hs : ∀ i k, adj i k = adj k i) : partsS n (rounds adj n n) = partsC adj n := by
  unfold partsS partsC
  refine filterMap_if fun i hi => ?_
  have hi := List.mem_range.1 hi
  cases hb : minB adj n i with
  | true =>
    have hmin := (minB_iff adj n hs hi).1 hb
    have e : ((List.range n).filter fun k => rounds adj n n k == i) = compL adj n i := by
      refine sorted_eq (List.pairwise_lt_range.sublist List.filter_sublist) (compL_sorted adj n i) fun k => ?_
      rw [mem_compL adj n hs hi, List.mem_filter, List.mem_range, beq_iff_eq]
      constructor
      · rintro ⟨hk, h⟩
        have := (rounds_least adj n hs hk).1
        rw [h] at this
        exact Conn.symm adj n hs hk this
      · intro h
        have hk := Conn.lt adj n hi h
        refine ⟨hk, Nat.le_antisymm ((rounds_least adj n hs hk).2 i (Conn.symm adj n hs hi h)) ?_⟩
        exact hmin _ (h.trans adj n (rounds_least adj n hs hk).1)
    rw [e, if_neg]
    · rfl
    · intro h0
      have : i ∈ compL adj n i := (mem_compL adj n hs hi).2 (.refl i)
      rw [h0] at this
      simp at this
  | false =>
    have e : ((List.range n).filter fun k => rounds adj n n k == i) = [] := by
      rw [List.filter_eq_nil_iff]
      intro k hk hc
      have hk := List.mem_range.1 hk
      have hc := beq_iff_eq.1 hc
      have hl := rounds_least adj n hs hk
      rw [hc] at hl
      have : minB adj n i = true := (minB_iff adj n hs hi).2 fun j hj => hl.2 j (hl.1.trans adj n hj)
      rw [this] at hb
      cases hb
    rw [if_pos e]
    rfl
end
end Plain
