namespace Tape
structure Rule where
  st : Int
  sy : Int
  wr : Int
  mv : Int
  nx : Int
  deriving DecidableEq
/-- A state of the tape machine, as plain data. -/
structure Ts where
  rules : List Rule
  cells : List Int
  at_ : Int
  state : Int
  stop : Int
def cellAt (s : Ts) : Int := s.cells[s.at_.toNat]?.getD 0
def fits (s : Ts) (r : Rule) : Bool := decide (r.st = s.state) && decide (r.sy = cellAt s)
def ruleOf (s : Ts) : Option Rule := s.rules.find? (fits s)
/-- The head's new place, and the cells behind the step. -/
def moved (s : Ts) (r : Rule) : List Int × Int :=
  if s.at_ + r.mv < 0 then (0 :: s.cells.set s.at_.toNat r.wr, 0)
  else if s.at_ + r.mv = s.cells.length then (s.cells.set s.at_.toNat r.wr ++ [0], s.at_ + r.mv)
  else (s.cells.set s.at_.toNat r.wr, s.at_ + r.mv)
def actF (s : Ts) (r : Rule) : Ts :=
  if (s.at_ + r.mv < 0 ∨ (s.cells.length : Int) ≤ s.at_ + r.mv) ∧ 200 ≤ s.cells.length then { s with stop := 3 }
  else if r.nx < 0 then { s with cells := (moved s r).1, at_ := (moved s r).2, stop := 1 }
  else { s with cells := (moved s r).1, at_ := (moved s r).2, state := r.nx }
def stepF (s : Ts) : Ts :=
  match ruleOf s with
  | none => { s with stop := 2 }
  | some r => actF s r
def runF : Nat → Ts → Ts × Nat
  | 0, s => (s, 0)
  | n + 1, s => if s.stop = 0 then ((runF n (stepF s)).1, (runF n (stepF s)).2 + 1) else (s, 0)
def ruleB (r : Rule) : Bool := decide (0 ≤ r.st ∧ r.st ≤ 15) && decide (0 ≤ r.sy ∧ r.sy ≤ 3) && decide (0 ≤ r.wr ∧ r.wr ≤ 3) && decide (-1 ≤ r.mv ∧ r.mv ≤ 1) && decide (-1 ≤ r.nx ∧ r.nx ≤ 15)
def befB (a b : Rule) : Bool := decide (a.st < b.st) || (decide (a.st = b.st) && decide (a.sy < b.sy))
structure Ok (s : Ts) : Prop where
  rules : ∀ r ∈ s.rules, ruleB r = true
  len : 1 ≤ s.cells.length ∧ s.cells.length ≤ 200
  cells : ∀ c ∈ s.cells, 0 ≤ c ∧ c ≤ 3
  at_ : 0 ≤ s.at_ ∧ s.at_ < s.cells.length
  state : 0 ≤ s.state ∧ s.state ≤ 15
  stop : 0 ≤ s.stop ∧ s.stop ≤ 7
theorem ruleB_iff {r : Rule} : ruleB r = true ↔ (0 ≤ r.st ∧ r.st ≤ 15) ∧ (0 ≤ r.sy ∧ r.sy ≤ 3) ∧ (0 ≤ r.wr ∧ r.wr ≤ 3) ∧ (-1 ≤ r.mv ∧ r.mv ≤ 1) ∧ (-1 ≤ r.nx ∧ r.nx ≤ 15) := by
  simp [ruleB, and_assoc]
theorem ruleOf_mem {s : Ts} {r : Rule} (h : ruleOf s = some r) : r ∈ s.rules := List.mem_of_find?_eq_some h
theorem set_cells {l : List Int} {i : Nat} {v : Int} (h : ∀ c ∈ l, 0 ≤ c ∧ c ≤ 3) (hv : 0 ≤ v ∧ v ≤ 3) : ∀ c ∈ l.set i v, 0 ≤ c ∧ c ≤ 3 := by
  intro c hc
  rcases List.mem_or_eq_of_mem_set hc with h1 | h1
  · exact h c h1
  · rw [h1]; exact hv
theorem moved_ok {s : Ts} {r : Rule} (h : Ok s) (hr : ruleB r = true) (hn : ¬ ((s.at_ + r.mv < 0 ∨ (s.cells.length : Int) ≤ s.at_ + r.mv) ∧ 200 ≤ s.cells.length)) :
    (1 ≤ (moved s r).1.length ∧ (moved s r).1.length ≤ 200) ∧ (∀ c ∈ (moved s r).1, 0 ≤ c ∧ c ≤ 3) ∧ 0 ≤ (moved s r).2 ∧ (moved s r).2 < (moved s r).1.length := by
  obtain ⟨r1, r2, r3, r4, r5⟩ := ruleB_iff.1 hr
  have h1 := h.len
  have h2 := h.at_
  have hs := set_cells (i := s.at_.toNat) h.cells r3
  unfold moved
  split
  · refine ⟨by simp; omega, ?_, by simp⟩
    intro c hc
    rcases List.mem_cons.1 hc with e | e
    · subst e; decide
    · exact hs c e
  · split
    · refine ⟨by simp; omega, ?_, by simp; omega⟩
      intro c hc
      rcases List.mem_append.1 hc with e | e
      · exact hs c e
      · rw [List.mem_singleton.1 e]; decide
    · refine ⟨by simp; omega, hs, by simp; omega⟩
theorem step_ok {s : Ts} (h : Ok s) : Ok (stepF s) := by
  unfold stepF
  cases hr : ruleOf s with
  | none => exact { h with stop := by show (0 : Int) ≤ 2 ∧ (2 : Int) ≤ 7; decide }
  | some r =>
    have hb := h.rules r (ruleOf_mem hr)
    obtain ⟨r1, r2, r3, r4, r5⟩ := ruleB_iff.1 hb
    simp only
    unfold actF
    split
    · exact { h with stop := by show (0 : Int) ≤ 3 ∧ (3 : Int) ≤ 7; decide }
    · rename_i hn
      obtain ⟨m1, m2, m3⟩ := moved_ok h hb hn
      split
      · exact { h with len := m1, cells := m2, at_ := m3, stop := by show (0 : Int) ≤ 1 ∧ (1 : Int) ≤ 7; decide }
      · exact { h with len := m1, cells := m2, at_ := m3, state := by show 0 ≤ r.nx ∧ r.nx ≤ 15; omega }
/-- Left and right exchanged. -/
def turn (r : Rule) : Rule := { r with mv := -r.mv }
def mirror (s : Ts) : Ts := { s with rules := s.rules.map turn, cells := s.cells.reverse, at_ := s.cells.length - 1 - s.at_ }
/-- The cells without the zeros at the ends. -/
def inked (l : List Int) : List Int := ((l.dropWhile (· == 0)).reverse.dropWhile (· == 0)).reverse
end Tape
namespace Acc
/-- A state of the accumulator machine, as plain data. -/
structure Dk where
  words : List Int
  at_ : Int
  a : Int
  q : Int
  x : Int
  ov : Bool
  input : List Int
  output : List Int
  stop : Int
def red (n : Int) : Int := n.tmod 100000
def five (n : Int) : Bool := decide (-99999 ≤ n ∧ n ≤ 99999)
def wordAt (s : Dk) (i : Int) : Int := s.words[i.toNat]?.getD 0
def sumF (s : Dk) (a b : Int) : Int × Bool := (red (a + b), s.ov || decide (red (a + b) ≠ a + b))
def shiftF (a : Int) : Int := 10 ^ (min a 5).toNat
/-- The decimal digits of a number, as bytes. -/
def dec : Nat → List Int
  | n => if h : n < 10 then [48 + (n : Int)] else dec (n / 10) ++ [48 + ((n % 10 : Nat) : Int)]
termination_by n => n
decreasing_by omega
def signed (n : Int) : List Int := if n < 0 then 45 :: dec (-n).toNat else dec n.toNat
def lineF (n : Int) : List Int := signed n ++ [10]
/-- The operation and the address of the word at hand. -/
def opF (s : Dk) : Int := ((wordAt s s.at_).tdiv 100).tmod 100
def addrF (s : Dk) : Int := (wordAt s s.at_).tmod 100 + (if 10000 ≤ wordAt s s.at_ then s.x else 0)
def stopF (s : Dk) : Int :=
  if s.at_ = 100 then 3
  else if wordAt s s.at_ < 0 ∨ 20000 ≤ wordAt s s.at_ ∨ 18 ≤ opF s then 2
  else if addrF s < 0 ∨ 100 ≤ addrF s then 3
  else if opF s = 6 ∧ wordAt s (addrF s) = 0 then 6
  else if opF s = 14 ∧ 1000 < s.output.length + (lineF s.a).length then 7
  else 0
def jumpF (s : Dk) (a : Int) (b : Bool) : Dk := if b then { s with at_ := a } else s
/-- What an operation does. -/
def effF (s : Dk) (op a : Int) : Dk :=
  if op = 0 then { s with stop := 1 }
  else if op = 1 then { s with a := wordAt s a }
  else if op = 2 then { s with words := s.words.set a.toNat s.a }
  else if op = 3 then { s with a := (sumF s s.a (wordAt s a)).1, ov := (sumF s s.a (wordAt s a)).2 }
  else if op = 4 then { s with a := (sumF s s.a (-wordAt s a)).1, ov := (sumF s s.a (-wordAt s a)).2 }
  else if op = 5 then { s with a := red (s.a * wordAt s a), q := (s.a * wordAt s a).tdiv 100000 }
  else if op = 6 then { s with a := s.a.tdiv (wordAt s a), q := s.a.tmod (wordAt s a) }
  else if op = 7 then jumpF s a true
  else if op = 8 then jumpF s a (decide (s.a < 0))
  else if op = 9 then jumpF s a (decide (s.a = 0))
  else if op = 10 then { jumpF s a s.ov with ov := false }
  else if op = 11 then { s with x := wordAt s a }
  else if op = 12 then jumpF { s with x := (sumF s s.x (-1)).1, ov := (sumF s s.x (-1)).2 } a (decide ((sumF s s.x (-1)).1 ≠ 0))
  else if op = 13 then
    match s.input with
    | [] => { s with words := s.words.set a.toNat (-1) }
    | b :: r => { s with words := s.words.set a.toNat b, input := r }
  else if op = 14 then { s with output := s.output ++ lineF s.a }
  else if op = 15 then { s with a := red (s.a * shiftF a) }
  else if op = 16 then { s with a := s.a.tdiv (shiftF a) }
  else { s with a := s.q, q := s.a }
def stepF (s : Dk) : Dk := if stopF s = 0 then effF { s with at_ := s.at_ + 1 } (opF s) (addrF s) else { s with stop := stopF s }
def runF : Nat → Dk → Dk × Nat
  | 0, s => (s, 0)
  | n + 1, s => if s.stop = 0 then ((runF n (stepF s)).1, (runF n (stepF s)).2 + 1) else (s, 0)
/-- A state that Valid accepts. -/
structure Ok (s : Dk) : Prop where
  len : s.words.length = 100
  words : ∀ n ∈ s.words, five n = true
  at_ : 0 ≤ s.at_ ∧ s.at_ ≤ 100
  a : five s.a = true
  q : five s.q = true
  x : five s.x = true
  input : s.input.length ≤ 1000
  byt : ∀ n ∈ s.input, 0 ≤ n ∧ n < 256
  output : s.output.length ≤ 1000
  stop : 0 ≤ s.stop ∧ s.stop ≤ 7
theorem five_iff {n : Int} : five n = true ↔ -99999 ≤ n ∧ n ≤ 99999 := decide_eq_true_iff
theorem red_five (n : Int) : five (red n) = true := by
  rw [five_iff]
  unfold red
  have h1 := Int.natAbs_tmod n 100000
  have h2 : n.natAbs % (100000 : Int).natAbs < 100000 := Nat.mod_lt _ (by decide)
  rw [← h1] at h2
  omega
theorem red_self {n : Int} : red n = n ↔ five n = true := by
  constructor
  · intro h; rw [← h]; exact red_five n
  · intro h
    rw [five_iff] at h
    unfold red
    rcases Int.lt_or_le n 0 with q | q
    · have : (-n).tmod 100000 = -n := Int.tmod_eq_of_lt (by omega) (by omega)
      rw [Int.neg_tmod] at this
      omega
    · exact Int.tmod_eq_of_lt q (by omega)
theorem word_five {s : Dk} (h : Ok s) (i : Int) : five (wordAt s i) = true := by
  unfold wordAt
  cases hi : s.words[i.toNat]? with
  | none => rfl
  | some v => exact h.words v (List.mem_of_getElem? hi)
theorem tdiv_five {a b : Int} (ha : five a = true) : five (a.tdiv b) = true := by
  rw [five_iff] at *
  have := Int.natAbs_tdiv a b
  have h2 : a.natAbs / b.natAbs ≤ a.natAbs := Nat.div_le_self _ _
  have : (a.tdiv b).natAbs ≤ a.natAbs := by rw [this]; exact h2
  omega
theorem tmod_five {a b : Int} (ha : five a = true) : five (a.tmod b) = true := by
  rw [five_iff] at *
  have := Int.natAbs_tmod a b
  have h2 : a.natAbs % b.natAbs ≤ a.natAbs := Nat.mod_le _ _
  have : (a.tmod b).natAbs ≤ a.natAbs := by rw [this]; exact h2
  omega
theorem mul_tdiv_five {a b : Int} (ha : five a = true) (hb : five b = true) : five ((a * b).tdiv 100000) = true := by
  rw [five_iff] at *
  have h1 := Int.natAbs_tdiv (a * b) 100000
  have h2 : (a * b).natAbs = a.natAbs * b.natAbs := Int.natAbs_mul a b
  have h3 : a.natAbs * b.natAbs ≤ 99999 * 99999 := Nat.mul_le_mul (by omega) (by omega)
  have h4 : (a * b).natAbs / (100000 : Int).natAbs ≤ 99999 := by
    rw [h2]
    have : (100000 : Int).natAbs = 100000 := rfl
    rw [this]
    omega
  have h4 : ((a * b).tdiv 100000).natAbs ≤ 99999 := by rw [h1]; exact h4
  generalize (a * b).tdiv 100000 = t at *
  omega
theorem set_five {l : List Int} {i : Nat} {v : Int} (h : ∀ n ∈ l, five n = true) (hv : five v = true) : ∀ n ∈ l.set i v, five n = true := by
  intro n hn
  rcases List.mem_or_eq_of_mem_set hn with h1 | h1
  · exact h n h1
  · rw [h1]; exact hv
theorem jump_ok {s : Dk} {a : Int} {b : Bool} (h : Ok s) (ha : 0 ≤ a ∧ a < 100) : Ok (jumpF s a b) := by
  unfold jumpF
  split
  · exact { h with at_ := ⟨ha.1, by show a ≤ 100; omega⟩ }
  · exact h
theorem eff_ok {s : Dk} {op a : Int} (h : Ok s) (ha : 0 ≤ a ∧ a < 100) (ho : op = 14 → s.output.length + (lineF s.a).length ≤ 1000) : Ok (effF s op a) := by
  unfold effF
  by_cases c0 : op = 0
  · rw [if_pos c0]
    exact { h with stop := by show (0 : Int) ≤ 1 ∧ (1 : Int) ≤ 7; decide }
  rw [if_neg c0]
  by_cases c1 : op = 1
  · rw [if_pos c1]
    exact { h with a := word_five h _ }
  rw [if_neg c1]
  by_cases c2 : op = 2
  · rw [if_pos c2]
    exact { h with len := by simpa using h.len, words := set_five h.words h.a }
  rw [if_neg c2]
  by_cases c3 : op = 3
  · rw [if_pos c3]
    exact { h with a := red_five _ }
  rw [if_neg c3]
  by_cases c4 : op = 4
  · rw [if_pos c4]
    exact { h with a := red_five _ }
  rw [if_neg c4]
  by_cases c5 : op = 5
  · rw [if_pos c5]
    exact { h with a := red_five _, q := mul_tdiv_five h.a (word_five h _) }
  rw [if_neg c5]
  by_cases c6 : op = 6
  · rw [if_pos c6]
    exact { h with a := tdiv_five h.a, q := tmod_five h.a }
  rw [if_neg c6]
  by_cases c7 : op = 7
  · rw [if_pos c7]
    exact jump_ok h ha
  rw [if_neg c7]
  by_cases c8 : op = 8
  · rw [if_pos c8]
    exact jump_ok h ha
  rw [if_neg c8]
  by_cases c9 : op = 9
  · rw [if_pos c9]
    exact jump_ok h ha
  rw [if_neg c9]
  by_cases c10 : op = 10
  · rw [if_pos c10]
    exact { jump_ok (b := s.ov) h ha with }
  rw [if_neg c10]
  by_cases c11 : op = 11
  · rw [if_pos c11]
    exact { h with x := word_five h _ }
  rw [if_neg c11]
  by_cases c12 : op = 12
  · rw [if_pos c12]
    exact jump_ok { h with x := red_five _ } ha
  rw [if_neg c12]
  by_cases c13 : op = 13
  · rw [if_pos c13]
    split
    · exact { h with len := by simpa using h.len, words := set_five h.words (by decide) }
    · rename_i b r hr
      have hb := h.byt b (by rw [hr]; simp)
      refine { h with len := by simpa using h.len, words := set_five h.words (five_iff.2 (by omega)), input := ?_, byt := ?_ }
      · have := h.input; rw [hr] at this; simp at this; show r.length ≤ 1000; omega
      · intro n hn; exact h.byt n (by rw [hr]; exact List.mem_cons_of_mem _ hn)
  rw [if_neg c13]
  by_cases c14 : op = 14
  · rw [if_pos c14]
    exact { h with output := by simpa using ho c14 }
  rw [if_neg c14]
  by_cases c15 : op = 15
  · rw [if_pos c15]
    exact { h with a := red_five _ }
  rw [if_neg c15]
  by_cases c16 : op = 16
  · rw [if_pos c16]
    exact { h with a := tdiv_five h.a }
  rw [if_neg c16]
  exact { h with a := h.q, q := h.a }
theorem step_ok {s : Dk} (h : Ok s) : Ok (stepF s) := by
  unfold stepF
  split
  · rename_i hs
    unfold stopF at hs
    split at hs
    · cases hs
    split at hs
    · cases hs
    split at hs
    · cases hs
    split at hs
    · cases hs
    split at hs
    · cases hs
    rename_i a1 a2 a3 a4 a5
    have hat := h.at_
    refine eff_ok { h with at_ := by show 0 ≤ s.at_ + 1 ∧ s.at_ + 1 ≤ 100; omega } (by omega) ?_
    intro h14
    show s.output.length + (lineF s.a).length ≤ 1000
    have : ¬ 1000 < s.output.length + (lineF s.a).length := fun q => a5 ⟨h14, q⟩
    omega
  · refine { h with stop := ?_ }
    show 0 ≤ stopF s ∧ stopF s ≤ 7
    unfold stopF
    repeat' split
    all_goals decide
theorem run_ok : ∀ (n : Nat) (s : Dk), Ok s → Ok (runF n s).1
  | 0, _, h => h
  | n + 1, s, h => by
    rw [runF]
    split
    · exact run_ok n _ (step_ok h)
    · exact h
theorem run_stopped {s : Dk} (h : s.stop ≠ 0) : ∀ n, runF n s = (s, 0)
  | 0 => rfl
  | n + 1 => by rw [runF, if_neg h]
theorem run_add : ∀ (m n : Nat) (s : Dk), runF (m + n) s = ((runF n (runF m s).1).1, (runF m s).2 + (runF n (runF m s).1).2)
  | 0, n, s => by simp [runF]
  | m + 1, n, s => by
    by_cases h : s.stop = 0
    · rw [show m + 1 + n = (m + n) + 1 by omega, runF, if_pos h, runF, if_pos h, run_add m n (stepF s)]
      simp only [Prod.mk.injEq, true_and]
      omega
    · rw [run_stopped h, run_stopped h]
      simp only
      rw [run_stopped h]
      rfl
theorem run_succ (n : Nat) (s : Dk) : runF (n + 1) s = if (runF n s).1.stop = 0 then (stepF (runF n s).1, (runF n s).2 + 1) else runF n s := by
  rw [run_add n 1 s]
  have : runF 1 (runF n s).1 = if (runF n s).1.stop = 0 then (stepF (runF n s).1, 1) else ((runF n s).1, 0) := by
    rw [runF]; rfl
  rw [this]
  split
  · rfl
  · simp
end Acc
namespace Acc
/-- A number with exactly k digits. -/
def fix : Nat → Nat → List Int
  | 0, _ => []
  | k + 1, n => fix k (n / 10) ++ [48 + ((n % 10 : Nat) : Int)]
theorem fix_len : ∀ (k n : Nat), (fix k n).length = k
  | 0, _ => rfl
  | k + 1, n => by rw [fix, List.length_append, fix_len k]; rfl
theorem dec_small {n : Nat} (h : n < 10) : dec n = [48 + (n : Int)] := by rw [dec, dif_pos h]
theorem dec_big {n : Nat} (h : ¬ n < 10) : dec n = dec (n / 10) ++ [48 + ((n % 10 : Nat) : Int)] := by rw [dec, dif_neg h]
/-- A text with zeros ahead of it, up to a size. -/
def pad (k : Nat) (l : List Int) : List Int := List.replicate (k - l.length) 48 ++ l
theorem fix_zero : ∀ k, fix k 0 = List.replicate k 48
  | 0 => rfl
  | k + 1 => by
    rw [fix, Nat.zero_div, fix_zero k, List.replicate_succ']
    rfl
theorem dec_len {n k : Nat} (hk : 1 ≤ k) (h : n < 10 ^ k) : (dec n).length ≤ k := by
  induction k generalizing n with
  | zero => omega
  | succ k ih =>
    by_cases h1 : n < 10
    · rw [dec_small h1]; simp
    · rw [dec_big h1, List.length_append]
      have hk1 : 1 ≤ k := by
        rcases Nat.eq_zero_or_pos k with e | e
        · subst e; simp at h; omega
        · exact e
      have := ih hk1 (n := n / 10) (by rw [Nat.pow_succ] at h; omega)
      simp only [List.length_cons, List.length_nil]
      omega
theorem pad_dec {n k : Nat} (hk : 1 ≤ k) (h : n < 10 ^ k) : pad k (dec n) = fix k n := by
  induction k generalizing n with
  | zero => omega
  | succ k ih =>
    by_cases h1 : n < 10
    · rw [dec_small h1, fix, Nat.div_eq_of_lt h1, fix_zero, Nat.mod_eq_of_lt h1]
      unfold pad
      simp
    · have hk1 : 1 ≤ k := by
        rcases Nat.eq_zero_or_pos k with e | e
        · subst e; simp at h; omega
        · exact e
      have hlt : n / 10 < 10 ^ k := by rw [Nat.pow_succ] at h; omega
      rw [dec_big h1, fix, ← ih hk1 hlt]
      unfold pad
      rw [List.length_append, List.append_assoc]
      simp only [List.length_cons, List.length_nil, Nat.zero_add, Nat.add_sub_add_right]
/-- The number of a text of digits. -/
def numF (l : List Int) : Nat := l.foldl (fun n c => 10 * n + (c - 48).toNat) 0
theorem numF_snoc (l : List Int) (c : Int) : numF (l ++ [c]) = 10 * numF l + (c - 48).toNat := by
  unfold numF; rw [List.foldl_append]; rfl
theorem num_fix : ∀ (k n : Nat), n < 10 ^ k → numF (fix k n) = n
  | 0, n, h => by simp at h; subst h; rfl
  | k + 1, n, h => by
    rw [fix, numF_snoc, num_fix k (n / 10) (by rw [Nat.pow_succ] at h; omega)]
    omega
def digB (c : Int) : Bool := decide (48 ≤ c ∧ c ≤ 57)
theorem dig_iff {c : Int} : digB c = true ↔ 48 ≤ c ∧ c ≤ 57 := decide_eq_true_iff
theorem fix_dig : ∀ (k n : Nat), (fix k n).all digB = true
  | 0, _ => rfl
  | k + 1, n => by
    rw [fix, List.all_append, fix_dig k]
    simp only [List.all_cons, List.all_nil, Bool.and_true, Bool.true_and]
    exact dig_iff.2 (by omega)
theorem num_lt : ∀ (l : List Int), l.all digB = true → numF l < 10 ^ l.length := by
  intro l
  induction h : l.length generalizing l with
  | zero =>
    intro _
    have : l = [] := List.eq_nil_of_length_eq_zero h
    subst this
    decide
  | succ k ih =>
    intro hd
    obtain ⟨r, c, rfl⟩ : ∃ r c, l = r ++ [c] := ⟨l.dropLast, l.getLast (by intro e; subst e; simp at h), (List.dropLast_concat_getLast _).symm⟩
    rw [List.all_append] at hd
    simp only [List.all_cons, List.all_nil, Bool.and_true, Bool.and_eq_true] at hd
    have hc := dig_iff.1 hd.2
    have := ih r (by simpa using h) hd.1
    rw [numF_snoc, Nat.pow_succ]
    omega
theorem fix_num : ∀ (k : Nat) (l : List Int), l.length = k → l.all digB = true → fix k (numF l) = l
  | 0, l, h, _ => by have : l = [] := List.eq_nil_of_length_eq_zero h; subst this; rfl
  | k + 1, l, h, hd => by
    obtain ⟨r, c, rfl⟩ : ∃ r c, l = r ++ [c] := ⟨l.dropLast, l.getLast (by intro e; subst e; simp at h), (List.dropLast_concat_getLast _).symm⟩
    rw [List.all_append] at hd
    simp only [List.all_cons, List.all_nil, Bool.and_true, Bool.and_eq_true] at hd
    have hc := dig_iff.1 hd.2
    rw [fix, numF_snoc]
    have e1 : (10 * numF r + (c - 48).toNat) / 10 = numF r := by omega
    have e2 : (10 * numF r + (c - 48).toNat) % 10 = (c - 48).toNat := by omega
    rw [e1, e2, fix_num k r (by simpa using h) hd.1]
    congr 2
    omega
/-- The card of a word. -/
def cardF (i : Nat) (v : Int) : List Int := pad 2 (dec i) ++ [32, if v < 0 then 45 else 43] ++ pad 5 (dec v.natAbs) ++ [10]
def deckGo : Nat → List Int → List Int
  | _, [] => []
  | i, v :: r => (if v = 0 then [] else cardF i v) ++ deckGo (i + 1) r
def deckText (l : List Int) : List Int := deckGo 0 l
/-- What a text of a card says. -/
def readCard (c : List Int) : Option (Nat × Int) :=
  if c.length = 10 ∧ (c.take 2).all digB = true ∧ c[2]? = some 32 ∧ (c[3]? = some 43 ∨ c[3]? = some 45) ∧ ((c.drop 4).take 5).all digB = true ∧ c[9]? = some 10 then
    some (numF (c.take 2), if c[3]? = some 45 then -(numF ((c.drop 4).take 5) : Int) else (numF ((c.drop 4).take 5) : Int))
  else none
theorem readCard_card {i : Nat} {v : Int} (hi : i < 100) (hv : v.natAbs < 100000) : readCard (cardF i v) = some (i, v) := by
  unfold cardF
  rw [pad_dec (by omega) (by simpa using hi), pad_dec (by omega) (by simpa using hv)]
  have l2 := fix_len 2 i
  have l5 := fix_len 5 v.natAbs
  have d2 := fix_dig 2 i
  have d5 := fix_dig 5 v.natAbs
  have n2 := num_fix 2 i (by simpa using hi)
  have n5 := num_fix 5 v.natAbs (by simpa using hv)
  generalize fix 2 i = A at *
  generalize fix 5 v.natAbs = B at *
  match A, l2 with
  | [a0, a1], _ =>
    match B, l5 with
    | [b0, b1, b2, b3, b4], _ =>
      unfold readCard
      by_cases h : v < 0
      · rw [if_pos h]
        simp only [List.cons_append, List.nil_append, List.length_cons, List.length_nil, List.take_succ_cons, List.take_zero, List.drop_succ_cons, List.drop_zero, List.getElem?_cons_succ, List.getElem?_cons_zero]
        rw [if_pos ⟨by decide, d2, trivial, .inr trivial, d5, trivial⟩, if_pos trivial, n2, n5]
        congr 2
        omega
      · rw [if_neg h]
        simp only [List.cons_append, List.nil_append, List.length_cons, List.length_nil, List.take_succ_cons, List.take_zero, List.drop_succ_cons, List.drop_zero, List.getElem?_cons_succ, List.getElem?_cons_zero]
        rw [if_pos ⟨by decide, d2, trivial, .inl trivial, d5, trivial⟩, if_neg (by decide), n2, n5]
        congr 2
        omega
theorem card_readCard {c : List Int} {i : Nat} {v : Int} (h : readCard c = some (i, v)) (h0 : v ≠ 0) : cardF i v = c ∧ i < 100 ∧ v.natAbs < 100000 := by
  unfold readCard at h
  split at h
  · rename_i hc
    obtain ⟨h1, h2, h3, h4, h5, h6⟩ := hc
    match c, h1 with
    | [c0, c1, c2, c3, c4, c5, c6, c7, c8, c9], _ =>
      simp only [List.take_succ_cons, List.take_zero, List.drop_succ_cons, List.drop_zero, List.getElem?_cons_succ, List.getElem?_cons_zero, Option.some.injEq, Prod.mk.injEq] at h h2 h3 h4 h5 h6
      obtain ⟨e1, e2⟩ := h
      have t2 := num_lt _ h2
      have t5 := num_lt _ h5
      have f2 := fix_num 2 _ rfl h2
      have f5 := fix_num 5 _ rfl h5
      simp only [List.length_cons, List.length_nil] at t2 t5
      have ev : v.natAbs = numF [c4, c5, c6, c7, c8] := by
        rw [← e2]; split <;> omega
      have es : (if v < 0 then (45 : Int) else 43) = c3 := by
        rcases h4 with h4 | h4
        · subst h4
          rw [if_neg (by decide)] at e2
          rw [if_neg (by omega)]
        · subst h4
          rw [if_pos rfl] at e2
          rw [if_pos (by omega)]
      refine ⟨?_, by omega, by omega⟩
      unfold cardF
      rw [es, pad_dec (by omega) (by omega), pad_dec (by omega) (by omega), ev, f5, ← e1, f2, h3, h6]
      rfl
  · cases h
end Acc
namespace Tape
open Acc (dec numF)
/-- The pieces between the separators. -/
def splitP {α : Type} [DecidableEq α] (c : α) : List α → List (List α)
  | [] => [[]]
  | x :: l => if x = c then [] :: splitP c l else match splitP c l with | [] => [[x]] | p :: ps => (x :: p) :: ps
def joinP {α : Type} (c : α) : List (List α) → List α
  | [] => []
  | [a] => a
  | a :: b :: r => a ++ c :: joinP c (b :: r)
section
variable {α : Type} [DecidableEq α]
theorem splitP_ne (c : α) : ∀ l : List α, splitP c l ≠ []
  | [] => by simp [splitP]
  | x :: l => by
    unfold splitP
    split
    · simp
    · split <;> simp
theorem splitP_cons (c : α) (l : List α) : ∃ p ps, splitP c l = p :: ps := by
  cases h : splitP c l with
  | nil => exact absurd h (splitP_ne c l)
  | cons p ps => exact ⟨p, ps, rfl⟩
theorem join_split (c : α) : ∀ l : List α, joinP c (splitP c l) = l
  | [] => rfl
  | x :: l => by
    have ih := join_split c l
    obtain ⟨p, ps, h⟩ := splitP_cons c l
    rw [splitP, h]
    rw [h] at ih
    split
    · rename_i e
      rw [joinP, ih, e]; rfl
    · cases ps with
      | nil => simp only [joinP] at ih ⊢; rw [ih]
      | cons q qs => simp only [joinP] at ih ⊢; rw [← ih]; rfl
theorem splitP_app {c : α} : ∀ {a : List α} (t : List α), c ∉ a → splitP c (a ++ c :: t) = a :: splitP c t
  | [], t, _ => by simp [splitP]
  | x :: a, t, h => by
    have hx : ¬ x = c := fun e => h (by rw [e]; simp)
    have ih := splitP_app (a := a) t (fun q => h (List.mem_cons_of_mem _ q))
    show splitP c (x :: (a ++ c :: t)) = _
    rw [splitP, if_neg hx, ih]
theorem splitP_none {c : α} : ∀ {a : List α}, c ∉ a → splitP c a = [a]
  | [], _ => rfl
  | x :: a, h => by
    have hx : ¬ x = c := fun e => h (by rw [e]; simp)
    rw [splitP, if_neg hx, splitP_none (fun q => h (List.mem_cons_of_mem _ q))]
theorem splitP_hit {c : α} : ∀ {l : List α}, c ∈ l → splitP c l = l.takeWhile (fun x => decide (x ≠ c)) :: splitP c ((l.dropWhile (fun x => decide (x ≠ c))).drop 1)
  | [], h => by simp at h
  | x :: l, h => by
    by_cases hx : x = c
    · rw [splitP, if_pos hx, List.takeWhile_cons_of_neg (by simp [hx]), List.dropWhile_cons_of_neg (by simp [hx])]
      rfl
    · have hl : c ∈ l := by
        rcases List.mem_cons.1 h with e | e
        · exact absurd e.symm hx
        · exact e
      rw [splitP, if_neg hx, splitP_hit hl, List.takeWhile_cons_of_pos (by simp [hx]), List.dropWhile_cons_of_pos (by simp [hx])]
theorem splitP_map {β : Type} [DecidableEq β] (f : α → β) (hf : ∀ x y, f x = f y → x = y) (c : α) : ∀ l : List α, splitP (f c) (l.map f) = (splitP c l).map (List.map f)
  | [] => rfl
  | x :: l => by
    obtain ⟨p, ps, h⟩ := splitP_cons c l
    rw [List.map_cons, splitP, splitP_map f hf c l, splitP, h]
    by_cases hx : x = c
    · rw [if_pos hx, if_pos (by rw [hx])]; rfl
    · rw [if_neg hx, if_neg (fun e => hx (hf _ _ e))]; rfl
end
theorem dec_mem : ∀ (n : Nat) (c : Int), c ∈ dec n → 48 ≤ c ∧ c ≤ 57 := by
  intro n
  induction n using Nat.strongRecOn with
  | _ n ih =>
    intro c hc
    rw [dec] at hc
    split at hc
    · rw [List.mem_singleton] at hc; omega
    · rcases List.mem_append.1 hc with e | e
      · exact ih (n / 10) (by omega) c e
      · rw [List.mem_singleton] at e; omega
theorem num_dec : ∀ n : Nat, numF (dec n) = n := by
  intro n
  induction n using Nat.strongRecOn with
  | _ n ih =>
    rw [dec]
    split
    · show 10 * 0 + ((48 : Int) + n - 48).toNat = n
      omega
    · rw [Acc.numF_snoc, ih (n / 10) (by omega)]
      omega
/-- A number without sign or leading zeros. -/
def rdNum (l : List Int) : Option Nat := if l = dec (numF l) ∧ numF l < 9223372036854775808 then some (numF l) else none
theorem rdNum_dec {n : Nat} (h : n < 9223372036854775808) : rdNum (dec n) = some n := by
  unfold rdNum
  rw [num_dec, if_pos ⟨rfl, h⟩]
def moveC (m : Int) : Int := if m = -1 then 76 else if m = 0 then 83 else 82
def nextF (n : Int) : List Int := if 0 ≤ n then dec n.toNat else [72]
/-- A rule's line without its end. -/
def bodyR (r : Rule) : List Int := dec r.st.toNat ++ 32 :: (dec r.sy.toNat ++ 32 :: (dec r.wr.toNat ++ 32 :: ([moveC r.mv] ++ 32 :: nextF r.nx)))
def lineR (r : Rule) : List Int := bodyR r ++ [10]
def textR (L : List Rule) : List Int := L.flatMap lineR
def mvOf (d : List Int) : Option Int := if d = [76] then some (-1) else if d = [83] then some 0 else if d = [82] then some 1 else none
def nxOf (e : List Int) : Option Int := if e = [72] then some (-1) else (rdNum e).map (fun n : Nat => (n : Int))
def rdFive (a b c d e : List Int) : Option Rule :=
  match rdNum a, rdNum b, rdNum c, mvOf d, nxOf e with
  | some x, some y, some z, some m, some n => some ⟨x, y, z, m, n⟩
  | _, _, _, _, _ => none
def rdRule (l : List Int) : Option Rule :=
  match splitP 32 l with
  | [a, b, c, d, e] => rdFive a b c d e
  | _ => none
/-- The rules of lines; the last line is what lies behind the last line feed. -/
def rdL : Nat → List (List Int) → Except Nat (List Rule)
  | i, [] => .error i
  | i, [s] => if s = [] then .ok [] else .error i
  | i, s :: t :: rest => match rdRule s with
    | none => .error i
    | some r => match rdL (i + 1) (t :: rest) with
      | .error k => .error k
      | .ok L => .ok (r :: L)
theorem dec_not {c : Int} (h : c < 48) (n : Nat) : c ∉ dec n := fun q => by have := dec_mem n c q; omega
theorem dec_not2 {c : Int} (h : 57 < c) (n : Nat) : c ∉ dec n := fun q => by have := dec_mem n c q; omega
theorem next_mem {n : Int} {c : Int} (h : c ∈ nextF n) : 48 ≤ c := by
  unfold nextF at h
  split at h
  · exact (dec_mem _ _ h).1
  · rw [List.mem_singleton.1 h]; decide
theorem move_ge (m : Int) : 76 ≤ moveC m := by
  unfold moveC; split
  · decide
  · split <;> decide
theorem move_read {r : Rule} (h : ruleB r = true) : mvOf [moveC r.mv] = some r.mv := by
  obtain ⟨_, _, _, r4, _⟩ := ruleB_iff.1 h
  have : r.mv = -1 ∨ r.mv = 0 ∨ r.mv = 1 := by omega
  rcases this with e | e | e <;> rw [e] <;> decide
theorem next_read {r : Rule} (h : ruleB r = true) : nxOf (nextF r.nx) = some r.nx := by
  obtain ⟨_, _, _, _, r5⟩ := ruleB_iff.1 h
  unfold nextF
  by_cases e : 0 ≤ r.nx
  · rw [if_pos e]
    unfold nxOf
    rw [if_neg (fun q => dec_not2 (c := 72) (by decide) r.nx.toNat (by rw [q]; simp)), rdNum_dec (by omega)]
    simp only [Option.map_some, Option.some.injEq]
    omega
  · rw [if_neg e]
    have : r.nx = -1 := by omega
    rw [this]
    decide
theorem body_read {r : Rule} (h : ruleB r = true) : rdRule (bodyR r) = some r := by
  obtain ⟨r1, r2, r3, r4, r5⟩ := ruleB_iff.1 h
  have hs : splitP 32 (bodyR r) = [dec r.st.toNat, dec r.sy.toNat, dec r.wr.toNat, [moveC r.mv], nextF r.nx] := by
    unfold bodyR
    rw [splitP_app _ (dec_not (by decide) _), splitP_app _ (dec_not (by decide) _), splitP_app _ (dec_not (by decide) _), splitP_app _ (by rw [List.mem_singleton]; have := move_ge r.mv; omega), splitP_none (fun q => by have := next_mem q; omega)]
  unfold rdRule
  rw [hs]
  simp only [rdFive, rdNum_dec (show r.st.toNat < 9223372036854775808 by omega), rdNum_dec (show r.sy.toNat < 9223372036854775808 by omega), rdNum_dec (show r.wr.toNat < 9223372036854775808 by omega), move_read h, next_read h]
  rw [Int.toNat_of_nonneg r1.1, Int.toNat_of_nonneg r2.1, Int.toNat_of_nonneg r3.1]
theorem body_nl (r : Rule) : (10 : Int) ∉ bodyR r := by
  unfold bodyR
  simp only [List.mem_append, List.mem_cons, not_or]
  refine ⟨dec_not (by decide) _, by decide, dec_not (by decide) _, by decide, dec_not (by decide) _, by decide, ⟨by have := move_ge r.mv; omega, by simp⟩, by decide, fun q => by have := next_mem q; omega⟩
theorem text_cons (r : Rule) (L : List Rule) : textR (r :: L) = bodyR r ++ 10 :: textR L := by
  show lineR r ++ textR L = _
  unfold lineR
  rw [List.append_assoc]; rfl
theorem lines_cons (r : Rule) (L : List Rule) : splitP 10 (textR (r :: L)) = bodyR r :: splitP 10 (textR L) := by
  rw [text_cons, splitP_app _ (body_nl r)]
theorem read_text : ∀ (L : List Rule) (i : Nat), (∀ r ∈ L, ruleB r = true) → rdL i (splitP 10 (textR L)) = .ok L
  | [], i, _ => rfl
  | r :: L, i, h => by
    rw [lines_cons]
    obtain ⟨p, ps, e⟩ := splitP_cons (10 : Int) (textR L)
    rw [e, rdL, body_read (h r (by simp)), ← e, read_text L (i + 1) (fun q hq => h q (List.mem_cons_of_mem _ hq))]
end Tape
