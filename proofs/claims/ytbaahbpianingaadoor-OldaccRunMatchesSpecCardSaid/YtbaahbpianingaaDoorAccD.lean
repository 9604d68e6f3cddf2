import Derived.Test.YtbaahbpianingaaDoorAccM
namespace Acc
/-- A number with exactly k digits. -/
def fix : Nat → Nat → List Int
  | 0, _ => []
  | k + 1, n => fix k (n / 10) ++ [48 + ((n % 10 : Nat) : Int)]
theorem fix_len : ∀ (k n : Nat), (fix k n).length = k
  | 0, _ => rfl
  | k + 1, n => by rw [fix, List.length_append, fix_len k]; rfl
theorem dec_small {n : Nat} (h : n < 10) : dec n = [48 + (n : Int)] := by rw [dec, dif_pos h]
theorem dec_big {n : Nat} (h : ¬ n < 10) : dec n = dec (n / 10) ++ [48 + ((n % 10 : Nat) : Int)] := by rw [dec, dif_neg h]
/-- A text with zeros ahead of it, up to a size. -/
def pad (k : Nat) (l : List Int) : List Int := List.replicate (k - l.length) 48 ++ l
theorem fix_zero : ∀ k, fix k 0 = List.replicate k 48
  | 0 => rfl
  | k + 1 => by
    rw [fix, Nat.zero_div, fix_zero k, List.replicate_succ']
    rfl
theorem dec_len {n k : Nat} (hk : 1 ≤ k) (h : n < 10 ^ k) : (dec n).length ≤ k := by
  induction k generalizing n with
  | zero => omega
  | succ k ih =>
    by_cases h1 : n < 10
    · rw [dec_small h1]; simp
    · rw [dec_big h1, List.length_append]
      have hk1 : 1 ≤ k := by
        rcases Nat.eq_zero_or_pos k with e | e
        · subst e; simp at h; omega
        · exact e
      have := ih hk1 (n := n / 10) (by rw [Nat.pow_succ] at h; omega)
      simp only [List.length_cons, List.length_nil]
      omega
theorem pad_dec {n k : Nat} (hk : 1 ≤ k) (h : n < 10 ^ k) : pad k (dec n) = fix k n := by
  induction k generalizing n with
  | zero => omega
  | succ k ih =>
    by_cases h1 : n < 10
    · rw [dec_small h1, fix, Nat.div_eq_of_lt h1, fix_zero, Nat.mod_eq_of_lt h1]
      unfold pad
      simp
    · have hk1 : 1 ≤ k := by
        rcases Nat.eq_zero_or_pos k with e | e
        · subst e; simp at h; omega
        · exact e
      have hlt : n / 10 < 10 ^ k := by rw [Nat.pow_succ] at h; omega
      rw [dec_big h1, fix, ← ih hk1 hlt]
      unfold pad
      rw [List.length_append, List.append_assoc]
      simp only [List.length_cons, List.length_nil, Nat.zero_add, Nat.add_sub_add_right]
/-- The number of a text of digits. -/
def numF (l : List Int) : Nat := l.foldl (fun n c => 10 * n + (c - 48).toNat) 0
theorem numF_snoc (l : List Int) (c : Int) : numF (l ++ [c]) = 10 * numF l + (c - 48).toNat := by
  unfold numF; rw [List.foldl_append]; rfl
theorem num_fix : ∀ (k n : Nat), n < 10 ^ k → numF (fix k n) = n
  | 0, n, h => by simp at h; subst h; rfl
  | k + 1, n, h => by
    rw [fix, numF_snoc, num_fix k (n / 10) (by rw [Nat.pow_succ] at h; omega)]
    omega
def digB (c : Int) : Bool := decide (48 ≤ c ∧ c ≤ 57)
theorem dig_iff {c : Int} : digB c = true ↔ 48 ≤ c ∧ c ≤ 57 := decide_eq_true_iff
theorem fix_dig : ∀ (k n : Nat), (fix k n).all digB = true
  | 0, _ => rfl
  | k + 1, n => by
    rw [fix, List.all_append, fix_dig k]
    simp only [List.all_cons, List.all_nil, Bool.and_true, Bool.true_and]
    exact dig_iff.2 (by omega)
theorem num_lt : ∀ (l : List Int), l.all digB = true → numF l < 10 ^ l.length := by
  intro l
  induction h : l.length generalizing l with
  | zero =>
    intro _
    have : l = [] := List.eq_nil_of_length_eq_zero h
    subst this
    decide
  | succ k ih =>
    intro hd
    obtain ⟨r, c, rfl⟩ : ∃ r c, l = r ++ [c] := ⟨l.dropLast, l.getLast (by intro e; subst e; simp at h), (List.dropLast_concat_getLast _).symm⟩
    rw [List.all_append] at hd
    simp only [List.all_cons, List.all_nil, Bool.and_true, Bool.and_eq_true] at hd
    have hc := dig_iff.1 hd.2
    have := ih r (by simpa using h) hd.1
    rw [numF_snoc, Nat.pow_succ]
    omega
theorem fix_num : ∀ (k : Nat) (l : List Int), l.length = k → l.all digB = true → fix k (numF l) = l
  | 0, l, h, _ => by have : l = [] := List.eq_nil_of_length_eq_zero h; subst this; rfl
  | k + 1, l, h, hd => by
    obtain ⟨r, c, rfl⟩ : ∃ r c, l = r ++ [c] := ⟨l.dropLast, l.getLast (by intro e; subst e; simp at h), (List.dropLast_concat_getLast _).symm⟩
    rw [List.all_append] at hd
    simp only [List.all_cons, List.all_nil, Bool.and_true, Bool.and_eq_true] at hd
    have hc := dig_iff.1 hd.2
    rw [fix, numF_snoc]
    have e1 : (10 * numF r + (c - 48).toNat) / 10 = numF r := by omega
    have e2 : (10 * numF r + (c - 48).toNat) % 10 = (c - 48).toNat := by omega
    rw [e1, e2, fix_num k r (by simpa using h) hd.1]
    congr 2
    omega
/-- The card of a word. -/
def cardF (i : Nat) (v : Int) : List Int := pad 2 (dec i) ++ [32, if v < 0 then 45 else 43] ++ pad 5 (dec v.natAbs) ++ [10]
def deckGo : Nat → List Int → List Int
  | _, [] => []
  | i, v :: r => (if v = 0 then [] else cardF i v) ++ deckGo (i + 1) r
def deckText (l : List Int) : List Int := deckGo 0 l
/-- What a text of a card says. -/
def readCard (c : List Int) : Option (Nat × Int) :=
  if c.length = 10 ∧ (c.take 2).all digB = true ∧ c[2]? = some 32 ∧ (c[3]? = some 43 ∨ c[3]? = some 45) ∧ ((c.drop 4).take 5).all digB = true ∧ c[9]? = some 10 then
    some (numF (c.take 2), if c[3]? = some 45 then -(numF ((c.drop 4).take 5) : Int) else (numF ((c.drop 4).take 5) : Int))
  else none
theorem readCard_card {i : Nat} {v : Int} (hi : i < 100) (hv : v.natAbs < 100000) : readCard (cardF i v) = some (i, v) := by
  unfold cardF
  rw [pad_dec (by omega) (by simpa using hi), pad_dec (by omega) (by simpa using hv)]
  have l2 := fix_len 2 i
  have l5 := fix_len 5 v.natAbs
  have d2 := fix_dig 2 i
  have d5 := fix_dig 5 v.natAbs
  have n2 := num_fix 2 i (by simpa using hi)
  have n5 := num_fix 5 v.natAbs (by simpa using hv)
  generalize fix 2 i = A at *
  generalize fix 5 v.natAbs = B at *
  match A, l2 with
  | [a0, a1], _ =>
    match B, l5 with
    | [b0, b1, b2, b3, b4], _ =>
      unfold readCard
      by_cases h : v < 0
      · rw [if_pos h]
        simp only [List.cons_append, List.nil_append, List.length_cons, List.length_nil, List.take_succ_cons, List.take_zero, List.drop_succ_cons, List.drop_zero, List.getElem?_cons_succ, List.getElem?_cons_zero]
        rw [if_pos ⟨by decide, d2, trivial, .inr trivial, d5, trivial⟩, if_pos trivial, n2, n5]
        congr 2
        omega
      · rw [if_neg h]
        simp only [List.cons_append, List.nil_append, List.length_cons, List.length_nil, List.take_succ_cons, List.take_zero, List.drop_succ_cons, List.drop_zero, List.getElem?_cons_succ, List.getElem?_cons_zero]
        rw [if_pos ⟨by decide, d2, trivial, .inl trivial, d5, trivial⟩, if_neg (by decide), n2, n5]
        congr 2
        omega
theorem card_readCard {c : List Int} {i : Nat} {v : Int} (h : readCard c = some (i, v)) (h0 : v ≠ 0) : cardF i v = c ∧ i < 100 ∧ v.natAbs < 100000 := by
  unfold readCard at h
  split at h
  · rename_i hc
    obtain ⟨h1, h2, h3, h4, h5, h6⟩ := hc
    match c, h1 with
    | [c0, c1, c2, c3, c4, c5, c6, c7, c8, c9], _ =>
      simp only [List.take_succ_cons, List.take_zero, List.drop_succ_cons, List.drop_zero, List.getElem?_cons_succ, List.getElem?_cons_zero, Option.some.injEq, Prod.mk.injEq] at h h2 h3 h4 h5 h6
      obtain ⟨e1, e2⟩ := h
      have t2 := num_lt _ h2
      have t5 := num_lt _ h5
      have f2 := fix_num 2 _ rfl h2
      have f5 := fix_num 5 _ rfl h5
      simp only [List.length_cons, List.length_nil] at t2 t5
      have ev : v.natAbs = numF [c4, c5, c6, c7, c8] := by
        rw [← e2]; split <;> omega
      have es : (if v < 0 then (45 : Int) else 43) = c3 := by
        rcases h4 with h4 | h4
        · subst h4
          rw [if_neg (by decide)] at e2
          rw [if_neg (by omega)]
        · subst h4
          rw [if_pos rfl] at e2
          rw [if_pos (by omega)]
      refine ⟨?_, by omega, by omega⟩
      unfold cardF
      rw [es, pad_dec (by omega) (by omega), pad_dec (by omega) (by omega), ev, f5, ← e1, f2, h3, h6]
      rfl
  · cases h
end Acc
