import Derived.Test.YtbhcaniopdgjkaaParts
namespace Plain
section
variable (adj : Nat → Nat → Bool) (n : Nat)
/-- What is reached from j in at most r steps. -/
def ball (j : Nat) : Nat → Nat → Bool
  | 0, i => i == j
  | r + 1, i => ball j r i || (List.range n).any fun k => ball j r k && adj k i
theorem ball_mono {j r i : Nat} (h : ball adj n j r i = true) : ball adj n j (r + 1) i = true := by simp [ball, h]
theorem ball_le {j r s i : Nat} (hrs : r ≤ s) (h : ball adj n j r i = true) : ball adj n j s i = true := by
  induction hrs with
  | refl => exact h
  | step _ ih => exact ball_mono adj n ih
def Stable (j r : Nat) : Prop := ∀ i, i < n → ball adj n j (r + 1) i = ball adj n j r i
theorem stable_all {j r : Nat} (hj : j < n) (h : Stable adj n j r) {i : Nat} (hc : Conn adj n j i) : ball adj n j r i = true := by
  induction hc with
  | refl => exact ball_le adj n (Nat.zero_le r) (by simp [ball])
  | @step a k h1 h2 h3 ih =>
    rw [← h k h3]
    have ha : a < n := Conn.lt adj n hj h1
    simp only [ball, Bool.or_eq_true, List.any_eq_true, Bool.and_eq_true, List.mem_range]
    exact .inr ⟨a, ha, ih, h2⟩
def cnt (j r : Nat) : Nat := (List.range n).countP fun i => ball adj n j r i
theorem cnt_step {j r : Nat} (h : ¬ Stable adj n j r) : cnt adj n j r < cnt adj n j (r + 1) := by
  have hle : cnt adj n j r ≤ cnt adj n j (r + 1) := List.countP_mono_left fun i _ hi => ball_mono adj n hi
  rcases Nat.lt_or_ge (cnt adj n j r) (cnt adj n j (r + 1)) with q | q
  · exact q
  · exfalso
    apply h
    intro i hi
    cases hb : ball adj n j r i with
    | true => exact ball_mono adj n hb
    | false =>
      cases hb' : ball adj n j (r + 1) i with
      | false => rfl
      | true =>
        have e : cnt adj n j r = (List.range n).countP fun i => ball adj n j r i := rfl
        have key : ∀ l : List Nat, i ∈ l → l.countP (fun i => ball adj n j r i) < l.countP (fun i => ball adj n j (r + 1) i) := by
          intro l hl
          obtain ⟨a, b, rfl⟩ := List.append_of_mem hl
          rw [List.countP_append, List.countP_append, List.countP_cons, List.countP_cons]
          have h1 : a.countP (fun i => ball adj n j r i) ≤ a.countP (fun i => ball adj n j (r + 1) i) := List.countP_mono_left fun i _ hi => ball_mono adj n hi
          have h2 : b.countP (fun i => ball adj n j r i) ≤ b.countP (fun i => ball adj n j (r + 1) i) := List.countP_mono_left fun i _ hi => ball_mono adj n hi
          simp only [hb, hb']
          simp
          omega
        have := key (List.range n) (List.mem_range.2 hi)
        unfold cnt at q
        omega
theorem ball_conn {j i : Nat} (hj : j < n) (hc : Conn adj n j i) : ball adj n j n i = true := by
  have h : ∀ r, (∃ s, s ≤ r ∧ Stable adj n j s) ∨ r < cnt adj n j r := by
    intro r
    induction r with
    | zero =>
      right
      unfold cnt
      rw [List.countP_pos_iff]
      exact ⟨j, List.mem_range.2 hj, by simp [ball]⟩
    | succ r ih =>
      rcases ih with ⟨s, hs, h⟩ | ih
      · exact .inl ⟨s, by omega, h⟩
      · by_cases hst : Stable adj n j r
        · exact .inl ⟨r, by omega, hst⟩
        · have := cnt_step adj n hst
          exact .inr (by omega)
  rcases h n with ⟨s, hs, h⟩ | h
  · exact ball_le adj n hs (stable_all adj n hj h hc)
  · have : cnt adj n j n ≤ n := by have := List.countP_le_length (p := fun i => ball adj n j n i) (l := List.range n); simpa [cnt] using this
    omega
/-- One number of the table of least neighbours. -/
def upd (g : Nat → Nat) (i v : Nat) : Nat → Nat := fun x => if x = i then v else g x
def relax (i : Nat) (g : Nat → Nat) (k : Nat) : Nat → Nat := if adj i k && decide (g k < g i) then upd g i (g k) else g
def row (i : Nat) (g : Nat → Nat) : Nat → Nat := (List.range n).foldl (relax adj i) g
def round (g : Nat → Nat) : Nat → Nat := (List.range n).foldl (fun g i => row adj n i g) g
def rounds : Nat → Nat → Nat
  | 0 => id
  | r + 1 => round adj n (rounds r)
theorem relax_le (i : Nat) (g : Nat → Nat) (k x : Nat) : relax adj i g k x ≤ g x := by
  unfold relax
  split
  · rename_i h
    simp only [Bool.and_eq_true, decide_eq_true_eq] at h
    unfold upd
    split
    · rename_i e; subst e; omega
    · exact Nat.le_refl _
  · exact Nat.le_refl _
theorem relax_at {i k : Nat} {g : Nat → Nat} (h : adj i k = true) : relax adj i g k i ≤ g k := by
  unfold relax
  rw [h]
  by_cases q : g k < g i
  · simp [q, upd]
  · simp [q]; omega
theorem foldl_le {α : Type} {f : (Nat → Nat) → α → Nat → Nat} (hf : ∀ g a x, f g a x ≤ g x) : ∀ (l : List α) (g : Nat → Nat) (x : Nat), l.foldl f g x ≤ g x
  | [], _, _ => Nat.le_refl _
  | a :: l, g, x => Nat.le_trans (foldl_le hf l (f g a) x) (hf g a x)
theorem row_le (i : Nat) (g : Nat → Nat) (x : Nat) : row adj n i g x ≤ g x := foldl_le (fun g a x => relax_le adj i g a x) _ g x
theorem row_at {i k : Nat} (hk : k < n) {g : Nat → Nat} (h : adj i k = true) : row adj n i g i ≤ g k := by
  obtain ⟨a, b, e⟩ := List.append_of_mem (List.mem_range.2 hk)
  unfold row
  rw [e, List.foldl_append, List.foldl_cons]
  refine Nat.le_trans (foldl_le (fun g a x => relax_le adj i g a x) b _ i) ?_
  exact Nat.le_trans (relax_at adj h) (foldl_le (fun g a x => relax_le adj i g a x) a g k)
theorem round_le (g : Nat → Nat) (x : Nat) : round adj n g x ≤ g x := foldl_le (fun g a x => row_le adj n a g x) _ g x
theorem round_at {i k : Nat} (hi : i < n) (hk : k < n) {g : Nat → Nat} (h : adj i k = true) : round adj n g i ≤ g k := by
  obtain ⟨a, b, e⟩ := List.append_of_mem (List.mem_range.2 hi)
  unfold round
  rw [e, List.foldl_append, List.foldl_cons]
  refine Nat.le_trans (foldl_le (fun g a x => row_le adj n a g x) b _ i) ?_
  exact Nat.le_trans (row_at adj n hk h) (foldl_le (fun g a x => row_le adj n a g x) a g k)
theorem rounds_ball (hs : ∀ i k, adj i k = adj k i) {j : Nat} : ∀ (r i : Nat), i < n → ball adj n j r i = true → rounds adj n r i ≤ j
  | 0, i, _, h => by simp [ball] at h; subst h; exact Nat.le_refl _
  | r + 1, i, hi, h => by
    simp only [ball, Bool.or_eq_true, List.any_eq_true, Bool.and_eq_true, List.mem_range] at h
    rcases h with h | ⟨k, hk, h1, h2⟩
    · exact Nat.le_trans (round_le adj n _ i) (rounds_ball hs r i hi h)
    · exact Nat.le_trans (round_at adj n hi hk (by rw [hs]; exact h2)) (rounds_ball hs r k hk h1)
def Ok (g : Nat → Nat) : Prop := ∀ i, i < n → Conn adj n i (g i)
theorem relax_ok {i k : Nat} {g : Nat → Nat} (hk : k < n) (h : Ok adj n g) : Ok adj n (relax adj i g k) := by
  intro x hx
  unfold relax
  split
  · rename_i hc
    simp only [Bool.and_eq_true, decide_eq_true_eq] at hc
    unfold upd
    split
    · rename_i e; subst e; exact (Conn.one adj n hc.1 hk).trans adj n (h k hk)
    · exact h x hx
  · exact h x hx
theorem fold_ok {f : (Nat → Nat) → Nat → Nat → Nat} (hf : ∀ g a, a < n → Ok adj n g → Ok adj n (f g a)) : ∀ (l : List Nat) (g : Nat → Nat), (∀ a ∈ l, a < n) → Ok adj n g → Ok adj n (l.foldl f g)
  | [], _, _, h => h
  | a :: l, g, hl, h => fold_ok hf l (f g a) (fun b hb => hl b (by simp [hb])) (hf g a (hl a (by simp)) h)
theorem row_ok {i : Nat} {g : Nat → Nat} (h : Ok adj n g) : Ok adj n (row adj n i g) := fold_ok adj n (fun _ _ ha hg => relax_ok adj n ha hg) _ g (fun _ ha => List.mem_range.1 ha) h
theorem round_ok {g : Nat → Nat} (h : Ok adj n g) : Ok adj n (round adj n g) := fold_ok adj n (fun _ _ _ hg => row_ok adj n hg) _ g (fun _ ha => List.mem_range.1 ha) h
theorem rounds_ok : ∀ r, Ok adj n (rounds adj n r)
  | 0 => fun i _ => .refl i
  | r + 1 => round_ok adj n (rounds_ok r)
/-- Behind n rounds everybody has the least of its part. -/
theorem rounds_least (hs : ∀ i k, adj i k = adj k i) {i : Nat} (hi : i < n) : Conn adj n i (rounds adj n n i) ∧ ∀ j, Conn adj n i j → rounds adj n n i ≤ j := by
  refine ⟨rounds_ok adj n n i hi, fun j hj => ?_⟩
  exact rounds_ball adj n hs n i hi (ball_conn adj n (Conn.lt adj n hi hj) (Conn.symm adj n hs hi hj))
end
end Plain
