namespace Acc
/-- A state of the accumulator machine, as plain data. -/
structure Dk where
  words : List Int
  at_ : Int
  a : Int
  q : Int
  x : Int
  ov : Bool
  input : List Int
  output : List Int
  stop : Int
def red (n : Int) : Int := n.tmod 100000
def five (n : Int) : Bool := decide (-99999 ≤ n ∧ n ≤ 99999)
def wordAt (s : Dk) (i : Int) : Int := s.words[i.toNat]?.getD 0
def sumF (s : Dk) (a b : Int) : Int × Bool := (red (a + b), s.ov || decide (red (a + b) ≠ a + b))
def shiftF (a : Int) : Int := 10 ^ (min a 5).toNat
/-- The decimal digits of a number, as bytes. -/
def dec : Nat → List Int
  | n => if h : n < 10 then [48 + (n : Int)] else dec (n / 10) ++ [48 + ((n % 10 : Nat) : Int)]
termination_by n => n
decreasing_by omega
def signed (n : Int) : List Int := if n < 0 then 45 :: dec (-n).toNat else dec n.toNat
def lineF (n : Int) : List Int := signed n ++ [10]
/-- The operation and the address of the word at hand. -/
def opF (s : Dk) : Int := ((wordAt s s.at_).tdiv 100).tmod 100
def addrF (s : Dk) : Int := (wordAt s s.at_).tmod 100 + (if 10000 ≤ wordAt s s.at_ then s.x else 0)
def stopF (s : Dk) : Int :=
  if s.at_ = 100 then 3
  else if wordAt s s.at_ < 0 ∨ 20000 ≤ wordAt s s.at_ ∨ 18 ≤ opF s then 2
  else if addrF s < 0 ∨ 100 ≤ addrF s then 3
  else if opF s = 6 ∧ wordAt s (addrF s) = 0 then 6
  else if opF s = 14 ∧ 1000 < s.output.length + (lineF s.a).length then 7
  else 0
def jumpF (s : Dk) (a : Int) (b : Bool) : Dk := if b then { s with at_ := a } else s
/-- What an operation does. -/
def effF (s : Dk) (op a : Int) : Dk :=
  if op = 0 then { s with stop := 1 }
  else if op = 1 then { s with a := wordAt s a }
  else if op = 2 then { s with words := s.words.set a.toNat s.a }
  else if op = 3 then { s with a := (sumF s s.a (wordAt s a)).1, ov := (sumF s s.a (wordAt s a)).2 }
  else if op = 4 then { s with a := (sumF s s.a (-wordAt s a)).1, ov := (sumF s s.a (-wordAt s a)).2 }
  else if op = 5 then { s with a := red (s.a * wordAt s a), q := (s.a * wordAt s a).tdiv 100000 }
  else if op = 6 then { s with a := s.a.tdiv (wordAt s a), q := s.a.tmod (wordAt s a) }
  else if op = 7 then jumpF s a true
  else if op = 8 then jumpF s a (decide (s.a < 0))
  else if op = 9 then jumpF s a (decide (s.a = 0))
  else if op = 10 then { jumpF s a s.ov with ov := false }
  else if op = 11 then { s with x := wordAt s a }
  else if op = 12 then jumpF { s with x := (sumF s s.x (-1)).1, ov := (sumF s s.x (-1)).2 } a (decide ((sumF s s.x (-1)).1 ≠ 0))
  else if op = 13 then
    match s.input with
    | [] => { s with words := s.words.set a.toNat (-1) }
    | b :: r => { s with words := s.words.set a.toNat b, input := r }
  else if op = 14 then { s with output := s.output ++ lineF s.a }
  else if op = 15 then { s with a := red (s.a * shiftF a) }
  else if op = 16 then { s with a := s.a.tdiv (shiftF a) }
  else { s with a := s.q, q := s.a }
def stepF (s : Dk) : Dk := if stopF s = 0 then effF { s with at_ := s.at_ + 1 } (opF s) (addrF s) else { s with stop := stopF s }
def runF : Nat → Dk → Dk × Nat
  | 0, s => (s, 0)
  | n + 1, s => if s.stop = 0 then ((runF n (stepF s)).1, (runF n (stepF s)).2 + 1) else (s, 0)
/-- A state that Valid accepts. -/
structure Ok (s : Dk) : Prop where
  len : s.words.length = 100
  words : ∀ n ∈ s.words, five n = true
  at_ : 0 ≤ s.at_ ∧ s.at_ ≤ 100
  a : five s.a = true
  q : five s.q = true
  x : five s.x = true
  input : s.input.length ≤ 1000
  byt : ∀ n ∈ s.input, 0 ≤ n ∧ n < 256
  output : s.output.length ≤ 1000
  stop : 0 ≤ s.stop ∧ s.stop ≤ 7
theorem five_iff {n : Int} : five n = true ↔ -99999 ≤ n ∧ n ≤ 99999 := decide_eq_true_iff
theorem red_five (n : Int) : five (red n) = true := by
  rw [five_iff]
  unfold red
  have h1 := Int.natAbs_tmod n 100000
  have h2 : n.natAbs % (100000 : Int).natAbs < 100000 := Nat.mod_lt _ (by decide)
  rw [← h1] at h2
  omega
theorem red_self {n : Int} : red n = n ↔ five n = true := by
  constructor
  · intro h; rw [← h]; exact red_five n
  · intro h
    rw [five_iff] at h
    unfold red
    rcases Int.lt_or_le n 0 with q | q
    · have : (-n).tmod 100000 = -n := Int.tmod_eq_of_lt (by omega) (by omega)
      rw [Int.neg_tmod] at this
      omega
    · exact Int.tmod_eq_of_lt q (by omega)
theorem word_five {s : Dk} (h : Ok s) (i : Int) : five (wordAt s i) = true := by
  unfold wordAt
  cases hi : s.words[i.toNat]? with
  | none => rfl
  | some v => exact h.words v (List.mem_of_getElem? hi)
theorem tdiv_five {a b : Int} (ha : five a = true) : five (a.tdiv b) = true := by
  rw [five_iff] at *
  have := Int.natAbs_tdiv a b
  have h2 : a.natAbs / b.natAbs ≤ a.natAbs := Nat.div_le_self _ _
  have : (a.tdiv b).natAbs ≤ a.natAbs := by rw [this]; exact h2
  omega
theorem tmod_five {a b : Int} (ha : five a = true) : five (a.tmod b) = true := by
  rw [five_iff] at *
  have := Int.natAbs_tmod a b
  have h2 : a.natAbs % b.natAbs ≤ a.natAbs := Nat.mod_le _ _
  have : (a.tmod b).natAbs ≤ a.natAbs := by rw [this]; exact h2
  omega
theorem mul_tdiv_five {a b : Int} (ha : five a = true) (hb : five b = true) : five ((a * b).tdiv 100000) = true := by
  rw [five_iff] at *
  have h1 := Int.natAbs_tdiv (a * b) 100000
  have h2 : (a * b).natAbs = a.natAbs * b.natAbs := Int.natAbs_mul a b
  have h3 : a.natAbs * b.natAbs ≤ 99999 * 99999 := Nat.mul_le_mul (by omega) (by omega)
  have h4 : (a * b).natAbs / (100000 : Int).natAbs ≤ 99999 := by
    rw [h2]
    have : (100000 : Int).natAbs = 100000 := rfl
    rw [this]
    omega
  have h4 : ((a * b).tdiv 100000).natAbs ≤ 99999 := by rw [h1]; exact h4
  generalize (a * b).tdiv 100000 = t at *
  omega
theorem set_five {l : List Int} {i : Nat} {v : Int} (h : ∀ n ∈ l, five n = true) (hv : five v = true) : ∀ n ∈ l.set i v, five n = true := by
  intro n hn
  rcases List.mem_or_eq_of_mem_set hn with h1 | h1
  · exact h n h1
  · rw [h1]; exact hv
theorem jump_ok {s : Dk} {a : Int} {b : Bool} (h : Ok s) (ha : 0 ≤ a ∧ a < 100) : Ok (jumpF s a b) := by
  unfold jumpF
  split
  · exact { h with at_ := ⟨ha.1, by show a ≤ 100; omega⟩ }
  · exact h
theorem eff_ok {s : Dk} {op a : Int} (h : Ok s) (ha : 0 ≤ a ∧ a < 100) (ho : op = 14 → s.output.length + (lineF s.a).length ≤ 1000) : Ok (effF s op a) := by
  unfold effF
  by_cases c0 : op = 0
  · rw [if_pos c0]
    exact { h with stop := by show (0 : Int) ≤ 1 ∧ (1 : Int) ≤ 7; decide }
  rw [if_neg c0]
  by_cases c1 : op = 1
  · rw [if_pos c1]
    exact { h with a := word_five h _ }
  rw [if_neg c1]
  by_cases c2 : op = 2
  · rw [if_pos c2]
    exact { h with len := by simpa using h.len, words := set_five h.words h.a }
  rw [if_neg c2]
  by_cases c3 : op = 3
  · rw [if_pos c3]
    exact { h with a := red_five _ }
  rw [if_neg c3]
  by_cases c4 : op = 4
  · rw [if_pos c4]
    exact { h with a := red_five _ }
  rw [if_neg c4]
  by_cases c5 : op = 5
  · rw [if_pos c5]
    exact { h with a := red_five _, q := mul_tdiv_five h.a (word_five h _) }
  rw [if_neg c5]
  by_cases c6 : op = 6
  · rw [if_pos c6]
    exact { h with a := tdiv_five h.a, q := tmod_five h.a }
  rw [if_neg c6]
  by_cases c7 : op = 7
  · rw [if_pos c7]
    exact jump_ok h ha
  rw [if_neg c7]
  by_cases c8 : op = 8
  · rw [if_pos c8]
    exact jump_ok h ha
  rw [if_neg c8]
  by_cases c9 : op = 9
  · rw [if_pos c9]
    exact jump_ok h ha
  rw [if_neg c9]
  by_cases c10 : op = 10
  · rw [if_pos c10]
    exact { jump_ok (b := s.ov) h ha with }
  rw [if_neg c10]
  by_cases c11 : op = 11
  · rw [if_pos c11]
    exact { h with x := word_five h _ }
  rw [if_neg c11]
  by_cases c12 : op = 12
  · rw [if_pos c12]
    exact jump_ok { h with x := red_five _ } ha
  rw [if_neg c12]
  by_cases c13 : op = 13
  · rw [if_pos c13]
    split
    · exact { h with len := by simpa using h.len, words := set_five h.words (by decide) }
    · rename_i b r hr
      have hb := h.byt b (by rw [hr]; simp)
      refine { h with len := by simpa using h.len, words := set_five h.words (five_iff.2 (by omega)), input := ?_, byt := ?_ }
      · have := h.input; rw [hr] at this; simp at this; show r.length ≤ 1000; omega
      · intro n hn; exact h.byt n (by rw [hr]; exact List.mem_cons_of_mem _ hn)
  rw [if_neg c13]
  by_cases c14 : op = 14
  · rw [if_pos c14]
    exact { h with output := by simpa using ho c14 }
  rw [if_neg c14]
  by_cases c15 : op = 15
  · rw [if_pos c15]
    exact { h with a := red_five _ }
  rw [if_neg c15]
  by_cases c16 : op = 16
  · rw [if_pos c16]
    exact { h with a := tdiv_five h.a }
  rw [if_neg c16]
  exact { h with a := h.q, q := h.a }
theorem step_ok {s : Dk} (h : Ok s) : Ok (stepF s) := by
  unfold stepF
  split
  · rename_i hs
    unfold stopF at hs
    split at hs
    · cases hs
    split at hs
    · cases hs
    split at hs
    · cases hs
    split at hs
    · cases hs
    split at hs
    · cases hs
    rename_i a1 a2 a3 a4 a5
    have hat := h.at_
    refine eff_ok { h with at_ := by show 0 ≤ s.at_ + 1 ∧ s.at_ + 1 ≤ 100; omega } (by omega) ?_
    intro h14
    show s.output.length + (lineF s.a).length ≤ 1000
    have : ¬ 1000 < s.output.length + (lineF s.a).length := fun q => a5 ⟨h14, q⟩
    omega
  · refine { h with stop := ?_ }
    show 0 ≤ stopF s ∧ stopF s ≤ 7
    unfold stopF
    repeat' split
    all_goals decide
theorem run_ok : ∀ (n : Nat) (s : Dk), Ok s → Ok (runF n s).1
  | 0, _, h => h
  | n + 1, s, h => by
    rw [runF]
    split
    · exact run_ok n _ (step_ok h)
    · exact h
theorem run_stopped {s : Dk} (h : s.stop ≠ 0) : ∀ n, runF n s = (s, 0)
  | 0 => rfl
  | n + 1 => by rw [runF, if_neg h]
theorem run_add : ∀ (m n : Nat) (s : Dk), runF (m + n) s = ((runF n (runF m s).1).1, (runF m s).2 + (runF n (runF m s).1).2)
  | 0, n, s => by simp [runF]
  | m + 1, n, s => by
    by_cases h : s.stop = 0
    · rw [show m + 1 + n = (m + n) + 1 by omega, runF, if_pos h, runF, if_pos h, run_add m n (stepF s)]
      simp only [Prod.mk.injEq, true_and]
      omega
    · rw [run_stopped h, run_stopped h]
      simp only
      rw [run_stopped h]
      rfl
theorem run_succ (n : Nat) (s : Dk) : runF (n + 1) s = if (runF n s).1.stop = 0 then (stepF (runF n s).1, (runF n s).2 + 1) else runF n s := by
  rw [run_add n 1 s]
  have : runF 1 (runF n s).1 = if (runF n s).1.stop = 0 then (stepF (runF n s).1, 1) else ((runF n s).1, 0) := by
    rw [runF]; rfl
  rw [this]
  split
  · rfl
  · simp
end Acc
