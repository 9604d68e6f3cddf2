namespace Plain
/-- Lexicographic order of lists. -/
def lexB : List Int → List Int → Bool
  | [], [] => false
  | [], _ :: _ => true
  | _ :: _, [] => false
  | x :: a, y :: b => if x = y then lexB a b else decide (x < y)
theorem lexB_irrefl : ∀ a, lexB a a = false
  | [] => rfl
  | x :: a => by simp [lexB, lexB_irrefl a]
theorem lexB_trans : ∀ a b c, lexB a b = true → lexB b c = true → lexB a c = true
  | [], [], _, h, _ => by simp [lexB] at h
  | [], _ :: _, [], _, h => by simp [lexB] at h
  | [], _ :: _, _ :: _, _, _ => by simp [lexB]
  | _ :: _, [], _, h, _ => by simp [lexB] at h
  | _ :: _, _ :: _, [], _, h => by simp [lexB] at h
  | x :: a, y :: b, z :: c, h1, h2 => by
    simp only [lexB] at h1 h2 ⊢
    by_cases e1 : x = y
    · rw [if_pos e1] at h1
      by_cases e2 : y = z
      · rw [if_pos e2] at h2
        rw [if_pos (e1.trans e2)]
        exact lexB_trans a b c h1 h2
      · rw [if_neg e2] at h2
        rw [if_neg (by rw [e1]; exact e2), e1]
        exact h2
    · rw [if_neg e1] at h1
      simp only [decide_eq_true_eq] at h1
      by_cases e2 : y = z
      · subst e2
        rw [if_neg e1]
        simpa using h1
      · rw [if_neg e2] at h2
        simp only [decide_eq_true_eq] at h2
        rw [if_neg (by omega)]
        simp only [decide_eq_true_eq]; omega
theorem lexB_total : ∀ a b, lexB a b = true ∨ a = b ∨ lexB b a = true
  | [], [] => .inr (.inl rfl)
  | [], _ :: _ => .inl rfl
  | _ :: _, [] => .inr (.inr rfl)
  | x :: a, y :: b => by
    simp only [lexB]
    by_cases e : x = y
    · subst e
      simp only [if_true, List.cons.injEq, true_and]
      exact lexB_total a b
    · rw [if_neg e, if_neg (fun q => e q.symm)]
      simp only [decide_eq_true_eq, List.cons.injEq]
      omega
theorem lexB_asymm (a b : List Int) (h : lexB a b = true) : lexB b a = false := by
  cases h' : lexB b a with
  | false => rfl
  | true => have := lexB_trans a b a h h'; rw [lexB_irrefl] at this; cases this
/-- The sublists of a length, in lexicographic order of their places. -/
def combs : Nat → List Int → List (List Int)
  | 0, _ => [[]]
  | _ + 1, [] => []
  | k + 1, x :: r => (combs k r).map (x :: ·) ++ combs (k + 1) r
theorem mem_combs : ∀ (k : Nat) (l c : List Int), c ∈ combs k l ↔ c.Sublist l ∧ c.length = k
  | 0, l, c => by
    simp only [combs, List.mem_singleton]
    constructor
    · rintro rfl; exact ⟨List.nil_sublist _, rfl⟩
    · rintro ⟨_, h⟩; exact List.length_eq_zero_iff.1 h
  | k + 1, [], c => by
    simp only [combs, List.not_mem_nil, false_iff]
    rintro ⟨h1, h2⟩
    rw [List.sublist_nil.1 h1] at h2
    simp at h2
  | k + 1, x :: r, c => by
    simp only [combs, List.mem_append, List.mem_map, mem_combs k r, mem_combs (k + 1) r]
    constructor
    · rintro (⟨d, ⟨h1, h2⟩, rfl⟩ | ⟨h1, h2⟩)
      · exact ⟨h1.cons_cons x, by simp [h2]⟩
      · exact ⟨h1.cons x, h2⟩
    · rintro ⟨h1, h2⟩
      cases h1 with
      | cons _ h => exact .inr ⟨h, h2⟩
      | cons_cons _ h => exact .inl ⟨_, ⟨h, by simpa using h2⟩, rfl⟩
theorem combs_sorted : ∀ (k : Nat) (l : List Int), l.Pairwise (· < ·) → (combs k l).Pairwise (fun a b => lexB a b = true)
  | 0, _, _ => by simp [combs]
  | _ + 1, [], _ => by simp [combs]
  | k + 1, x :: r, h => by
    obtain ⟨h1, h2⟩ := List.pairwise_cons.1 h
    rw [combs, List.pairwise_append]
    refine ⟨?_, combs_sorted (k + 1) r h2, ?_⟩
    · rw [List.pairwise_map]
      exact (combs_sorted k r h2).imp fun hab => by simpa [lexB] using hab
    · intro a ha b hb
      obtain ⟨a', _, rfl⟩ := List.mem_map.1 ha
      obtain ⟨hb1, hb2⟩ := (mem_combs (k + 1) r b).1 hb
      cases b with
      | nil => simp at hb2
      | cons y b' =>
        have hy : y ∈ r := hb1.subset (by simp)
        have := h1 y hy
        simp only [lexB]
        rw [if_neg (by omega)]
        simpa using this
/-- What is chosen by the bits of a number. -/
def subsetM : List Int → Nat → List Int
  | [], _ => []
  | x :: r, m => if m % 2 = 1 then x :: subsetM r (m / 2) else subsetM r (m / 2)
theorem subsetM_sub : ∀ (l : List Int) (m : Nat), (subsetM l m).Sublist l
  | [], _ => List.Sublist.slnil
  | x :: r, m => by
    simp only [subsetM]
    split
    · exact (subsetM_sub r _).cons_cons x
    · exact (subsetM_sub r _).cons x
theorem subsetM_all : ∀ (l c : List Int), c.Sublist l → ∃ m, m < 2 ^ l.length ∧ subsetM l m = c
  | [], c, h => ⟨0, by simp, by rw [List.sublist_nil.1 h]; rfl⟩
  | x :: r, c, h => by
    cases h with
    | cons _ h =>
      obtain ⟨m, h1, h2⟩ := subsetM_all r c h
      refine ⟨2 * m, by simp only [List.length_cons, Nat.pow_succ]; omega, ?_⟩
      simp only [subsetM]
      rw [if_neg (by omega), show 2 * m / 2 = m from by omega, h2]
    | cons_cons _ h =>
      rename_i c'
      obtain ⟨m, h1, h2⟩ := subsetM_all r c' h
      refine ⟨2 * m + 1, by simp only [List.length_cons, Nat.pow_succ]; omega, ?_⟩
      simp only [subsetM]
      rw [if_pos (by omega), show (2 * m + 1) / 2 = m from by omega, h2]
/-- b is the best of the candidates: the least number, then the least in order. -/
def Best (num : List Int → Nat) (cs : List (List Int)) (b : List Int) : Prop := b ∈ cs ∧ ∀ c ∈ cs, num b < num c ∨ (num b = num c ∧ (b = c ∨ lexB b c = true))
theorem best_unique {num : List Int → Nat} {cs ds : List (List Int)} {b d : List Int} (h : Best num cs b) (k : Best num ds d) (e : ∀ c, c ∈ cs ↔ c ∈ ds) : b = d := by
  have h1 := h.2 d ((e d).2 k.1)
  have h2 := k.2 b ((e b).1 h.1)
  rcases h1 with h1 | ⟨h1, h3 | h3⟩
  · rcases h2 with h2 | ⟨h2, _⟩ <;> omega
  · exact h3
  · rcases h2 with h2 | ⟨h2, h4 | h4⟩
    · omega
    · exact h4.symm
    · rw [lexB_asymm b d h3] at h4; cases h4
/-- The program's search: the first with the least number. -/
def scanFirst (num : List Int → Nat) : List (List Int) → Option (List Int) → Option (List Int)
  | [], acc => acc
  | c :: cs, none => scanFirst num cs (some c)
  | c :: cs, some b => scanFirst num cs (some (if num c < num b then c else b))
theorem scanFirst_some (num : List Int → Nat) : ∀ (cs : List (List Int)) (b : List Int) (pre : List (List Int)), (pre ++ cs).Pairwise (fun a b => lexB a b = true) → Best num pre b → ∃ r, scanFirst num cs (some b) = some r ∧ Best num (pre ++ cs) r
  | [], b, pre, _, h => ⟨b, rfl, by simpa using h⟩
  | c :: cs, b, pre, hs, h => by
    have e : pre ++ c :: cs = (pre ++ [c]) ++ cs := by simp
    rw [e] at hs ⊢
    refine scanFirst_some num cs _ (pre ++ [c]) hs ?_
    have hp := (List.pairwise_append.1 (List.pairwise_append.1 hs).1).2.2
    by_cases hc : num c < num b
    · rw [if_pos hc]
      refine ⟨by simp, fun d hd => ?_⟩
      rcases List.mem_append.1 hd with hd | hd
      · rcases h.2 d hd with q | ⟨q, _⟩
        · exact .inl (by omega)
        · exact .inl (by omega)
      · rw [List.mem_singleton.1 hd]; exact .inr ⟨rfl, .inl rfl⟩
    · rw [if_neg hc]
      refine ⟨by simp [h.1], fun d hd => ?_⟩
      rcases List.mem_append.1 hd with hd | hd
      · exact h.2 d hd
      · rw [List.mem_singleton.1 hd]
        have hl := hp b h.1 c (by simp)
        by_cases q : num b < num c
        · exact .inl q
        · exact .inr ⟨by omega, .inr hl⟩
theorem scanFirst_best (num : List Int → Nat) (cs : List (List Int)) (hs : cs.Pairwise (fun a b => lexB a b = true)) (hne : cs ≠ []) : ∃ r, scanFirst num cs none = some r ∧ Best num cs r := by
  cases cs with
  | nil => exact absurd rfl hne
  | cons c cs =>
    have := scanFirst_some num cs c [c] (by simpa using hs) ⟨by simp, fun d hd => by rw [List.mem_singleton.1 hd]; exact .inr ⟨rfl, .inl rfl⟩⟩
    simpa [scanFirst] using this
/-- The specification's search, in whatever order. -/
def scanLess (num : List Int → Nat) : List (List Int) → Option (List Int) → Option (List Int)
  | [], acc => acc
  | c :: cs, none => scanLess num cs (some c)
  | c :: cs, some b => scanLess num cs (some (if num c < num b ∨ (num c = num b ∧ lexB c b = true) then c else b))
theorem scanLess_some (num : List Int → Nat) : ∀ (cs : List (List Int)) (b : List Int) (pre : List (List Int)), Best num pre b → ∃ r, scanLess num cs (some b) = some r ∧ Best num (pre ++ cs) r
  | [], b, pre, h => ⟨b, rfl, by simpa using h⟩
  | c :: cs, b, pre, h => by
    have e : pre ++ c :: cs = (pre ++ [c]) ++ cs := by simp
    rw [e]
    refine scanLess_some num cs _ (pre ++ [c]) ?_
    by_cases hc : num c < num b ∨ (num c = num b ∧ lexB c b = true)
    · rw [if_pos hc]
      refine ⟨by simp, fun d hd => ?_⟩
      rcases List.mem_append.1 hd with hd | hd
      · rcases hc with hc | ⟨hc, hl⟩
        · rcases h.2 d hd with q | ⟨q, _⟩
          · exact .inl (by omega)
          · exact .inl (by omega)
        · rcases h.2 d hd with q | ⟨q, q2 | q2⟩
          · exact .inl (by omega)
          · subst q2; exact .inr ⟨hc, .inr hl⟩
          · exact .inr ⟨by omega, .inr (lexB_trans _ _ _ hl q2)⟩
      · rw [List.mem_singleton.1 hd]; exact .inr ⟨rfl, .inl rfl⟩
    · rw [if_neg hc]
      refine ⟨by simp [h.1], fun d hd => ?_⟩
      rcases List.mem_append.1 hd with hd | hd
      · exact h.2 d hd
      · rw [List.mem_singleton.1 hd]
        by_cases q : num b < num c
        · exact .inl q
        · have e2 : num b = num c := by omega
          rcases lexB_total b c with t | t | t
          · exact .inr ⟨e2, .inr t⟩
          · exact .inr ⟨e2, .inl t⟩
          · exact absurd (.inr ⟨e2.symm, t⟩) hc
theorem scanLess_best (num : List Int → Nat) (cs : List (List Int)) (hne : cs ≠ []) : ∃ r, scanLess num cs none = some r ∧ Best num cs r := by
  cases cs with
  | nil => exact absurd rfl hne
  | cons c cs =>
    have := scanLess_some num cs c [c] ⟨by simp, fun d hd => by rw [List.mem_singleton.1 hd]; exact .inr ⟨rfl, .inl rfl⟩⟩
    simpa [scanLess] using this
end Plain
