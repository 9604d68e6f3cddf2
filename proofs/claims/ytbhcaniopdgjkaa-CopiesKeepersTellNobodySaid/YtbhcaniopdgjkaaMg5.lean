import Derived.Test.YtbhcaniopdgjkaaMg4
namespace Plain
section
variable (adj : Nat → Nat → Bool) (n : Nat)
/-- What is reached from j in at most r steps. -/
def ball (j : Nat) : Nat → Nat → Bool
  | 0, i => i == j
  | r + 1, i => ball j r i || (List.range n).any fun k => ball j r k && adj k i
theorem ball_mono {j r i : Nat} (h : ball adj n j r i = true) : ball adj n j (r + 1) i = true := by simp [ball, h]
theorem ball_le {j r s i : Nat} (hrs : r ≤ s) (h : ball adj n j r i = true) : ball adj n j s i = true := by
  induction hrs with
  | refl => exact h
  | step _ ih => exact ball_mono adj n ih
def Stable (j r : Nat) : Prop := ∀ i, i < n → ball adj n j (r + 1) i = ball adj n j r i
theorem stable_all {j r : Nat} (hj : j < n) (h : Stable adj n j r) {i : Nat} (hc : Conn adj n j i) : ball adj n j r i = true := by
  induction hc with
  | refl => exact ball_le adj n (Nat.zero_le r) (by simp [ball])
  | @step a k h1 h2 h3 ih =>
    rw [← h k h3]
    have ha : a < n := Conn.lt adj n hj h1
    simp only [ball, Bool.or_eq_true, List.any_eq_true, Bool.and_eq_true, List.mem_range]
    exact .inr ⟨a, ha, ih, h2⟩
def cnt (j r : Nat) : Nat := (List.range n).countP fun i => ball adj n j r i
theorem cnt_step {j r : Nat} (h : ¬ Stable adj n j r) : cnt adj n j r < cnt adj n j (r + 1) := by
  have hle : cnt adj n j r ≤ cnt adj n j (r + 1) := List.countP_mono_left fun i _ hi => ball_mono adj n hi
  rcases Nat.lt_or_ge (cnt adj n j r) (cnt adj n j (r + 1)) with q | q
  · exact q
  · exfalso
    apply h
    intro i hi
    cases hb : ball adj n j r i with
    | true => exact ball_mono adj n hb
    | false =>
      cases hb' : ball adj n j (r + 1) i with
      | false => rfl
      | true =>
        have e : cnt adj n j r = (List.range n).countP fun i => ball adj n j r i := rfl
        have key : ∀ l : List Nat, i ∈ l → l.countP (fun i => ball adj n j r i) < l.countP (fun i => ball adj n j (r + 1) i) := by
          intro l hl
          obtain ⟨a, b, rfl⟩ := List.append_of_mem hl
          rw [List.countP_append, List.countP_append, List.countP_cons, List.countP_cons]
          have h1 : a.countP (fun i => ball adj n j r i) ≤ a.countP (fun i => ball adj n j (r + 1) i) := List.countP_mono_left fun i _ hi => ball_mono adj n hi
          have h2 : b.countP (fun i => ball adj n j r i) ≤ b.countP (fun i => ball adj n j (r + 1) i) := List.countP_mono_left fun i _ hi => ball_mono adj n hi
          simp only [hb, hb']
          simp
          omega
        have := key (List.range n) (List.mem_range.2 hi)
        unfold cnt at q
        omega
theorem ball_conn {j i : Nat} (hj : j < n) (hc : Conn adj n j i) : ball adj n j n i = true := by
  have h : ∀ r, (∃ s, s ≤ r ∧ Stable adj n j s) ∨ r < cnt adj n j r := by
    intro r
    induction r with
    | zero =>
      right
      unfold cnt
      rw [List.countP_pos_iff]
      exact ⟨j, List.mem_range.2 hj, by simp [ball]⟩
    | succ r ih =>
      rcases ih with ⟨s, hs, h⟩ | ih
      · exact .inl ⟨s, by omega, h⟩
      · by_cases hst : Stable adj n j r
        · exact .inl ⟨r, by omega, hst⟩
        · have := cnt_step adj n hst
          exact .inr (by omega)
  rcases h n with ⟨s, hs, h⟩ | h
  · exact ball_le adj n hs (stable_all adj n hj h hc)
  · have : cnt adj n j n ≤ n := by have := List.countP_le_length (p := fun i => ball adj n j n i) (l := List.range n); simpa [cnt] using this
    omega
/-- One number of the table of least neighbours. -/
def upd (g : Nat → Nat) (i v : Nat) : Nat → Nat := fun x => if x = i then v else g x
def relax (i : Nat) (g : Nat → Nat) (k : Nat) : Nat → Nat := if adj i k && decide (g k < g i) then upd g i (g k) else g
def row (i : Nat) (g : Nat → Nat) : Nat → Nat := (List.range n).foldl (relax adj i) g
def round (g : Nat → Nat) : Nat → Nat := (List.range n).foldl (fun g i => row adj n i g) g
def rounds : Nat → Nat → Nat
  | 0 => id
  | r + 1 => round adj n (rounds r)
theorem relax_le (i : Nat) (g : Nat → Nat) (k x : Nat) : relax adj i g k x ≤ g x := by
  unfold relax
  split
  · rename_i h
    simp only [Bool.and_eq_true, decide_eq_true_eq] at h
    unfold upd
    split
    · rename_i e; subst e; omega
    · exact Nat.le_refl _
  · exact Nat.le_refl _
theorem relax_at {i k : Nat} {g : Nat → Nat} (h : adj i k = true) : relax adj i g k i ≤ g k := by
  unfold relax
  rw [h]
  by_cases q : g k < g i
  · simp [q, upd]
  · simp [q]; omega
theorem foldl_le {α : Type} {f : (Nat → Nat) → α → Nat → Nat} (hf : ∀ g a x, f g a x ≤ g x) : ∀ (l : List α) (g : Nat → Nat) (x : Nat), l.foldl f g x ≤ g x
  | [], _, _ => Nat.le_refl _
  | a :: l, g, x => Nat.le_trans (foldl_le hf l (f g a) x) (hf g a x)
theorem row_le (i : Nat) (g : Nat → Nat) (x : Nat) : row adj n i g x ≤ g x := foldl_le (fun g a x => relax_le adj i g a x) _ g x
theorem row_at {i k : Nat} (hk : k < n) {g : Nat → Nat} (h : adj i k = true) : row adj n i g i ≤ g k := by
  obtain ⟨a, b, e⟩ := List.append_of_mem (List.mem_range.2 hk)
  unfold row
  rw [e, List.foldl_append, List.foldl_cons]
  refine Nat.le_trans (foldl_le (fun g a x => relax_le adj i g a x) b _ i) ?_
  exact Nat.le_trans (relax_at adj h) (foldl_le (fun g a x => relax_le adj i g a x) a g k)
theorem round_le (g : Nat → Nat) (x : Nat) : round adj n g x ≤ g x := foldl_le (fun g a x => row_le adj n a g x) _ g x
theorem round_at {i k : Nat} (hi : i < n) (hk : k < n) {g : Nat → Nat} (h : adj i k = true) : round adj n g i ≤ g k := by
  obtain ⟨a, b, e⟩ := List.append_of_mem (List.mem_range.2 hi)
  unfold round
  rw [e, List.foldl_append, List.foldl_cons]
  refine Nat.le_trans (foldl_le (fun g a x => row_le adj n a g x) b _ i) ?_
  exact Nat.le_trans (row_at adj n hk h) (foldl_le (fun g a x => row_le adj n a g x) a g k)
theorem rounds_ball (hs : ∀ i k, adj i k = adj k i) {j : Nat} : ∀ (r i : Nat), i < n → ball adj n j r i = true → rounds adj n r i ≤ j
  | 0, i, _, h => by simp [ball] at h; subst h; exact Nat.le_refl _
  | r + 1, i, hi, h => by
    simp only [ball, Bool.or_eq_true, List.any_eq_true, Bool.and_eq_true, List.mem_range] at h
    rcases h with h | ⟨k, hk, h1, h2⟩
    · exact Nat.le_trans (round_le adj n _ i) (rounds_ball hs r i hi h)
    · exact Nat.le_trans (round_at adj n hi hk (by rw [hs]; exact h2)) (rounds_ball hs r k hk h1)
def Ok (g : Nat → Nat) : Prop := ∀ i, i < n → Conn adj n i (g i)
theorem relax_ok {i k : Nat} {g : Nat → Nat} (hk : k < n) (h : Ok adj n g) : Ok adj n (relax adj i g k) := by
  intro x hx
  unfold relax
  split
  · rename_i hc
    simp only [Bool.and_eq_true, decide_eq_true_eq] at hc
    unfold upd
    split
    · rename_i e; subst e; exact (Conn.one adj n hc.1 hk).trans adj n (h k hk)
    · exact h x hx
  · exact h x hx
theorem fold_ok {f : (Nat → Nat) → Nat → Nat → Nat} (hf : ∀ g a, a < n → Ok adj n g → Ok adj n (f g a)) : ∀ (l : List Nat) (g : Nat → Nat), (∀ a ∈ l, a < n) → Ok adj n g → Ok adj n (l.foldl f g)
  | [], _, _, h => h
  | a :: l, g, hl, h => fold_ok hf l (f g a) (fun b hb => hl b (by simp [hb])) (hf g a (hl a (by simp)) h)
theorem row_ok {i : Nat} {g : Nat → Nat} (h : Ok adj n g) : Ok adj n (row adj n i g) := fold_ok adj n (fun _ _ ha hg => relax_ok adj n ha hg) _ g (fun _ ha => List.mem_range.1 ha) h
theorem round_ok {g : Nat → Nat} (h : Ok adj n g) : Ok adj n (round adj n g) := fold_ok adj n (fun _ _ _ hg => row_ok adj n hg) _ g (fun _ ha => List.mem_range.1 ha) h
theorem rounds_ok : ∀ r, Ok adj n (rounds adj n r)
  | 0 => fun i _ => .refl i
  | r + 1 => round_ok adj n (rounds_ok r)
/-- Behind n rounds everybody has the least of its part. -/
theorem rounds_least (hs : ∀ i k, adj i k = adj k i) {i : Nat} (hi : i < n) : Conn adj n i (rounds adj n n i) ∧ ∀ j, Conn adj n i j → rounds adj n n i ≤ j := by
  refine ⟨rounds_ok adj n n i hi, fun j hj => ?_⟩
  exact rounds_ball adj n hs n i hi (ball_conn adj n (Conn.lt adj n hi hj) (Conn.symm adj n hs hi hj))
end
end Plain
namespace Plain
theorem sorted_eq : ∀ {a b : List Nat}, a.Pairwise (· < ·) → b.Pairwise (· < ·) → (∀ x, x ∈ a ↔ x ∈ b) → a = b
  | [], [], _, _, _ => rfl
  | [], y :: b, _, _, h => absurd ((h y).2 (by simp)) (by simp)
  | x :: a, [], _, _, h => absurd ((h x).1 (by simp)) (by simp)
  | x :: a, y :: b, ha, hb, h => by
    obtain ⟨ha1, ha2⟩ := List.pairwise_cons.1 ha
    obtain ⟨hb1, hb2⟩ := List.pairwise_cons.1 hb
    have e : x = y := by
      rcases List.mem_cons.1 ((h x).1 (by simp)) with q | q
      · exact q
      · rcases List.mem_cons.1 ((h y).2 (by simp)) with q' | q'
        · exact q'.symm
        · have := ha1 y q'; have := hb1 x q; omega
    subst e
    rw [sorted_eq ha2 hb2]
    intro z
    have hz := h z
    constructor
    · intro q
      have hzx := ha1 z q
      rcases List.mem_cons.1 (hz.1 (by simp [q])) with q' | q'
      · omega
      · exact q'
    · intro q
      have hzx := hb1 z q
      rcases List.mem_cons.1 (hz.2 (by simp [q])) with q' | q'
      · omega
      · exact q'
section
variable (adj : Nat → Nat → Bool) (n : Nat)
def compL (i : Nat) : List Nat := (List.range n).filter fun k => (visit adj n n i []).contains k
theorem unseen_le (acc : List Nat) : unseen n acc ≤ n := by
  unfold unseen
  have := List.length_filter_le (fun k => !acc.contains k) (List.range n)
  simpa using this
theorem mem_compL (hs : ∀ i k, adj i k = adj k i) {i k : Nat} (hi : i < n) : k ∈ compL adj n i ↔ Conn adj n i k := by
  obtain ⟨g, h1, _, h3, _⟩ := visit_part adj n hs (acc := []) (unseen_le n []) hi (by simp) (by simp) List.nodup_nil (fun x hx => by simp at hx)
  unfold compL
  rw [List.mem_filter, h1]
  simp only [List.nil_append, List.contains_eq_mem, decide_eq_true_eq, List.mem_range, h3]
  exact ⟨fun h => h.2, fun h => ⟨Conn.lt adj n hi h, h⟩⟩
theorem compL_sorted (i : Nat) : (compL adj n i).Pairwise (· < ·) := List.pairwise_lt_range.sublist List.filter_sublist
def minB (i : Nat) : Bool := (compL adj n i).all fun k => decide (i ≤ k)
theorem minB_iff (hs : ∀ i k, adj i k = adj k i) {i : Nat} (hi : i < n) : minB adj n i = true ↔ ∀ k, Conn adj n i k → i ≤ k := by
  simp only [minB, List.all_eq_true, decide_eq_true_eq]
  exact ⟨fun h k hk => h k ((mem_compL adj n hs hi).2 hk), fun h k hk => h k ((mem_compL adj n hs hi).1 hk)⟩
/-- The parts: for the least of each, its places. -/
def partsC : List (List Nat) := ((List.range n).filter (minB adj n)).map (compL adj n)
theorem closed_conn {acc : List Nat} (hc : Closed adj n acc) {i k : Nat} (hi : i ∈ acc) (h : Conn adj n i k) : k ∈ acc := by
  induction h with
  | refl => exact hi
  | step _ h2 h3 ih => exact hc _ ih _ h3 h2
def partsGo (sortf : List Nat → List Nat) : List Nat → List Nat → List (List Nat) → List (List Nat)
  | [], _, out => out
  | i :: is, seen, out => if seen.contains i then partsGo sortf is seen out else partsGo sortf is (visit adj n n i seen) (out ++ [sortf ((visit adj n n i seen).drop seen.length)])
theorem partsGo_eq (hs : ∀ i k, adj i k = adj k i) (sortf : List Nat → List Nat) (hsort : ∀ g, g.Nodup → (sortf g).Pairwise (· < ·) ∧ ∀ x, x ∈ sortf g ↔ x ∈ g) :
    ∀ (is pre seen : List Nat) (out : List (List Nat)), List.range n = pre ++ is → Closed adj n seen → (∀ x ∈ seen, x < n) → seen.Nodup → (∀ x, x ∈ seen ↔ ∃ j ∈ pre, Conn adj n j x) → out = (pre.filter (minB adj n)).map (compL adj n) → partsGo adj n sortf is seen out = partsC adj n
  | [], pre, seen, out, hr, _, _, _, _, ho => by
    rw [partsGo, ho, partsC, hr, List.append_nil]
  | i :: is, pre, seen, out, hr, hc, hl, hn, hm, ho => by
    have hi : i < n := by
      have : i ∈ List.range n := by rw [hr]; simp
      exact List.mem_range.1 this
    have hpw : (pre ++ i :: is).Pairwise (· < ·) := by rw [← hr]; exact List.pairwise_lt_range
    have hlt : ∀ j ∈ pre, j < i := fun j hj => (List.pairwise_append.1 hpw).2.2 j hj i (by simp)
    have hgt : ∀ j ∈ is, i < j := fun j hj => (List.pairwise_cons.1 (List.pairwise_append.1 hpw).2.1).1 j hj
    have hpre : ∀ k, k < i → k ∈ pre := fun k hk => by
      have : k ∈ pre ++ i :: is := by rw [← hr]; exact List.mem_range.2 (by omega)
      rcases List.mem_append.1 this with h | h
      · exact h
      · rcases List.mem_cons.1 h with h | h
        · omega
        · have := hgt k h; omega
    have hiff : i ∈ seen ↔ minB adj n i = false := by
      rw [hm]
      constructor
      · rintro ⟨j, hj, hcj⟩
        have hjn : j < n := Nat.lt_trans (hlt j hj) hi
        cases hb : minB adj n i with
        | false => rfl
        | true =>
          have := (minB_iff adj n hs hi).1 hb j (Conn.symm adj n hs hjn hcj)
          have := hlt j hj
          omega
      · intro hb
        have : ¬ ∀ k, Conn adj n i k → i ≤ k := fun h => by rw [(minB_iff adj n hs hi).2 h] at hb; cases hb
        have h2 : ∃ k, Conn adj n i k ∧ k < i := Classical.byContradiction fun hne => this fun k hk => Nat.le_of_not_lt fun hlt' => hne ⟨k, hk, hlt'⟩
        obtain ⟨k, hk, hki⟩ := h2
        exact ⟨k, hpre k hki, Conn.symm adj n hs hi hk⟩
    have hr2 : List.range n = (pre ++ [i]) ++ is := by rw [hr]; simp
    rw [partsGo]
    by_cases hseen : i ∈ seen
    · rw [if_pos (by simpa using hseen)]
      refine partsGo_eq hs sortf hsort is (pre ++ [i]) seen out hr2 hc hl hn (fun x => ?_) ?_
      · rw [hm]
        constructor
        · rintro ⟨j, hj, h⟩; exact ⟨j, by simp [hj], h⟩
        · rintro ⟨j, hj, h⟩
          rcases List.mem_append.1 hj with hj | hj
          · exact ⟨j, hj, h⟩
          · rw [List.mem_singleton.1 hj] at h
            exact (hm x).1 (closed_conn adj n hc hseen h)
      · rw [ho, List.filter_append]
        simp [hiff.1 hseen]
    · rw [if_neg (by simpa using hseen)]
      have hmin : minB adj n i = true := by
        cases hb : minB adj n i with
        | true => rfl
        | false => exact absurd (hiff.2 hb) hseen
      obtain ⟨g, h1, h2, h3, h4, h5, h6⟩ := visit_part adj n hs (acc := seen) (unseen_le n seen) hi hseen hl hn hc
      rw [h1, List.drop_left]
      have hg : sortf g = compL adj n i := sorted_eq (hsort g h2).1 (compL_sorted adj n i) fun x => by
        rw [(hsort g h2).2 x, h3, mem_compL adj n hs hi]
      refine partsGo_eq hs sortf hsort is (pre ++ [i]) (seen ++ g) _ hr2 h4 h5 h6 (fun x => ?_) ?_
      · rw [List.mem_append, hm, h3]
        constructor
        · rintro (⟨j, hj, h⟩ | h)
          · exact ⟨j, by simp [hj], h⟩
          · exact ⟨i, by simp, h⟩
        · rintro ⟨j, hj, h⟩
          rcases List.mem_append.1 hj with hj | hj
          · exact .inl ⟨j, hj, h⟩
          · rw [List.mem_singleton.1 hj] at h; exact .inr h
      · rw [ho, hg, List.filter_append]
        simp [hmin]
theorem parts_prog (hs : ∀ i k, adj i k = adj k i) (sortf : List Nat → List Nat) (hsort : ∀ g, g.Nodup → (sortf g).Pairwise (· < ·) ∧ ∀ x, x ∈ sortf g ↔ x ∈ g) : partsGo adj n sortf (List.range n) [] [] = partsC adj n :=
  partsGo_eq adj n hs sortf hsort (List.range n) [] [] [] (by simp) (fun x hx => by simp at hx) (by simp) List.nodup_nil (by simp) (by simp)
/-- The specification's parts, from the table of least neighbours. -/
def partsS (f : Nat → Nat) : List (List Nat) := (List.range n).filterMap fun i => if ((List.range n).filter fun k => f k == i) = [] then none else some ((List.range n).filter fun k => f k == i)
theorem filterMap_if {α β : Type} {f : α → Option β} {p : α → Bool} {g : α → β} : ∀ {l : List α}, (∀ a ∈ l, f a = if p a then some (g a) else none) → l.filterMap f = (l.filter p).map g
  | [], _ => rfl
  | a :: l, h => by
    rw [List.filterMap_cons, h a (by simp), List.filter_cons]
    cases hp : p a with
    | true => simp [filterMap_if (l := l) fun b hb => h b (by simp [hb])]
    | false => simp [filterMap_if (l := l) fun b hb => h b (by simp [hb])]
theorem parts_spec (hs : ∀ i k, adj i k = adj k i) : partsS n (rounds adj n n) = partsC adj n := by
  unfold partsS partsC
  refine filterMap_if fun i hi => ?_
  have hi := List.mem_range.1 hi
  cases hb : minB adj n i with
  | true =>
    have hmin := (minB_iff adj n hs hi).1 hb
    have e : ((List.range n).filter fun k => rounds adj n n k == i) = compL adj n i := by
      refine sorted_eq (List.pairwise_lt_range.sublist List.filter_sublist) (compL_sorted adj n i) fun k => ?_
      rw [mem_compL adj n hs hi, List.mem_filter, List.mem_range, beq_iff_eq]
      constructor
      · rintro ⟨hk, h⟩
        have := (rounds_least adj n hs hk).1
        rw [h] at this
        exact Conn.symm adj n hs hk this
      · intro h
        have hk := Conn.lt adj n hi h
        refine ⟨hk, Nat.le_antisymm ((rounds_least adj n hs hk).2 i (Conn.symm adj n hs hi h)) ?_⟩
        exact hmin _ (h.trans adj n (rounds_least adj n hs hk).1)
    rw [e, if_neg]
    · rfl
    · intro h0
      have : i ∈ compL adj n i := (mem_compL adj n hs hi).2 (.refl i)
      rw [h0] at this
      simp at this
  | false =>
    have e : ((List.range n).filter fun k => rounds adj n n k == i) = [] := by
      rw [List.filter_eq_nil_iff]
      intro k hk hc
      have hk := List.mem_range.1 hk
      have hc := beq_iff_eq.1 hc
      have hl := rounds_least adj n hs hk
      rw [hc] at hl
      have : minB adj n i = true := (minB_iff adj n hs hi).2 fun j hj => hl.2 j (hl.1.trans adj n hj)
      rw [this] at hb
      cases hb
    rw [if_pos e]
    rfl
end
end Plain
