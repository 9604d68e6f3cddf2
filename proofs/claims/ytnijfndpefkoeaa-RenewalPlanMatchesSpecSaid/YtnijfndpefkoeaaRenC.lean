namespace Ren
/-- Lexicographic order of lists. -/
def lexB : List Int → List Int → Bool
  | [], [] => false
  | [], _ :: _ => true
  | _ :: _, [] => false
  | x :: a, y :: b => if x = y then lexB a b else decide (x < y)
theorem lexB_irrefl : ∀ a, lexB a a = false
  | [] => rfl
  | x :: a => by simp [lexB, lexB_irrefl a]
theorem lexB_trans : ∀ a b c, lexB a b = true → lexB b c = true → lexB a c = true
  | [], [], _, h, _ => by simp [lexB] at h
  | [], _ :: _, [], _, h => by simp [lexB] at h
  | [], _ :: _, _ :: _, _, _ => by simp [lexB]
  | _ :: _, [], _, h, _ => by simp [lexB] at h
  | _ :: _, _ :: _, [], _, h => by simp [lexB] at h
  | x :: a, y :: b, z :: c, h1, h2 => by
    simp only [lexB] at h1 h2 ⊢
    by_cases e1 : x = y
    · rw [if_pos e1] at h1
      by_cases e2 : y = z
      · rw [if_pos e2] at h2
        rw [if_pos (e1.trans e2)]
        exact lexB_trans a b c h1 h2
      · rw [if_neg e2] at h2
        rw [if_neg (by rw [e1]; exact e2), e1]
        exact h2
    · rw [if_neg e1] at h1
      simp only [decide_eq_true_eq] at h1
      by_cases e2 : y = z
      · subst e2
        rw [if_neg e1]
        simpa using h1
      · rw [if_neg e2] at h2
        simp only [decide_eq_true_eq] at h2
        rw [if_neg (by omega)]
        simp only [decide_eq_true_eq]; omega
theorem lexB_total : ∀ a b, lexB a b = true ∨ a = b ∨ lexB b a = true
  | [], [] => .inr (.inl rfl)
  | [], _ :: _ => .inl rfl
  | _ :: _, [] => .inr (.inr rfl)
  | x :: a, y :: b => by
    simp only [lexB]
    by_cases e : x = y
    · subst e
      simp only [if_true, List.cons.injEq, true_and]
      exact lexB_total a b
    · rw [if_neg e, if_neg (fun q => e q.symm)]
      simp only [decide_eq_true_eq, List.cons.injEq]
      omega
theorem lexB_asymm (a b : List Int) (h : lexB a b = true) : lexB b a = false := by
  cases h' : lexB b a with
  | false => rfl
  | true => have := lexB_trans a b a h h'; rw [lexB_irrefl] at this; cases this
/-- A number put into a list ahead of the first one that is not less. -/
def ins (i : Int) : List Int → List Int
  | [] => [i]
  | x :: l => if i ≤ x then i :: x :: l else x :: ins i l
theorem ins_len (i : Int) : ∀ l, (ins i l).length = l.length + 1
  | [] => rfl
  | x :: l => by
    rw [ins]
    split
    · rfl
    · simp [ins_len i l]
theorem ins_mem (i : Int) : ∀ (l : List Int) (v : Int), v ∈ ins i l ↔ v = i ∨ v ∈ l
  | [], v => by simp [ins]
  | x :: l, v => by
    rw [ins]
    split
    · simp
    · simp [ins_mem i l, or_left_comm]
theorem ins_sorted (i : Int) : ∀ l : List Int, l.Pairwise (· ≤ ·) → (ins i l).Pairwise (· ≤ ·)
  | [], _ => by simp [ins]
  | x :: l, h => by
    rw [ins]
    have h1 := List.pairwise_cons.1 h
    split
    · refine List.pairwise_cons.2 ⟨fun v hv => ?_, h⟩
      rcases List.mem_cons.1 hv with rfl | hv
      · omega
      · have := h1.1 v hv; omega
    · refine List.pairwise_cons.2 ⟨fun v hv => ?_, ins_sorted i l h1.2⟩
      rcases (ins_mem i l v).1 hv with rfl | hv
      · omega
      · exact h1.1 v hv
theorem ins_lex (i : Int) : ∀ a b : List Int, a.length = b.length → lexB a b = true → lexB (ins i a) (ins i b) = true
  | [], [], _, h => by simp [lexB] at h
  | [], _ :: _, hl, _ => by simp at hl
  | _ :: _, [], hl, _ => by simp at hl
  | x :: a, y :: b, hl, h => by
    have h0 := h
    simp only [lexB] at h
    by_cases e : x = y
    · subst e
      rw [if_pos rfl] at h
      rw [ins, ins]
      by_cases q : i ≤ x
      · rw [if_pos q, if_pos q]
        simp only [lexB, if_true]
        exact h
      · rw [if_neg q, if_neg q]
        simp only [lexB, if_true]
        exact ins_lex i a b (by simpa using hl) h
    · rw [if_neg e] at h
      simp only [decide_eq_true_eq] at h
      rw [ins, ins]
      by_cases q : i ≤ x
      · rw [if_pos q, if_pos (by omega)]
        simp only [lexB, if_true]
        rw [if_neg e]
        simpa using h
      · rw [if_neg q]
        by_cases q2 : i ≤ y
        · rw [if_pos q2]
          simp only [lexB]
          rw [if_neg (by omega)]
          simp; omega
        · rw [if_neg q2]
          simp only [lexB]
          rw [if_neg e]
          simpa using h
theorem ins_erase (i : Int) : ∀ l : List Int, l.Pairwise (· ≤ ·) → i ∈ l → ins i (l.erase i) = l
  | [], _, h => by simp at h
  | x :: l, hs, h => by
    have h1 := List.pairwise_cons.1 hs
    by_cases e : x = i
    · subst e
      rw [List.erase_cons_head]
      cases l with
      | nil => rfl
      | cons y r => rw [ins, if_pos (h1.1 y (by simp))]
    · have hi : i ∈ l := by
        rcases List.mem_cons.1 h with q | q
        · exact absurd q.symm e
        · exact q
      have := h1.1 i hi
      rw [List.erase_cons_tail (by simpa using e), ins, if_neg (by omega), ins_erase i l h1.2 hi]
/-- A choice of kinds with its cost. -/
abbrev Choice := List Int × Int
def lifeOf (ks : List (Int × Int)) (v : Int) : Int := (ks[v.toNat]?.getD (0, 0)).1
def costOf (ks : List (Int × Int)) (v : Int) : Int := (ks[v.toNat]?.getD (0, 0)).2
def lives (ks : List (Int × Int)) (K : List Int) : Int := (K.map (lifeOf ks)).sum
def costs (ks : List (Int × Int)) (K : List Int) : Int := (K.map (costOf ks)).sum
theorem sum_ins (f : Int → Int) (i : Int) : ∀ l : List Int, ((ins i l).map f).sum = f i + (l.map f).sum
  | [] => by simp [ins]
  | x :: l => by
    rw [ins]
    split
    · simp
    · simp [sum_ins f i l]; omega
theorem lives_ins (ks : List (Int × Int)) (i : Int) (K : List Int) : lives ks (ins i K) = lifeOf ks i + lives ks K := sum_ins _ i K
theorem costs_ins (ks : List (Int × Int)) (i : Int) (K : List Int) : costs ks (ins i K) = costOf ks i + costs ks K := sum_ins _ i K
theorem lives_cons (ks : List (Int × Int)) (i : Int) (K : List Int) : lives ks (i :: K) = lifeOf ks i + lives ks K := by simp [lives]
theorem costs_cons (ks : List (Int × Int)) (i : Int) (K : List Int) : costs ks (i :: K) = costOf ks i + costs ks K := by simp [costs]
/-- A choice is better than another one: by cost, then by length, then in order. -/
def betB (a b : Choice) : Bool :=
  if a.2 = b.2 then (if a.1.length = b.1.length then lexB a.1 b.1 else decide (a.1.length < b.1.length)) else decide (a.2 < b.2)
theorem betB_irrefl (a : Choice) : betB a a = false := by simp [betB, lexB_irrefl]
theorem betB_trans {a b c : Choice} (h1 : betB a b = true) (h2 : betB b c = true) : betB a c = true := by
  unfold betB at *
  by_cases e1 : a.2 = b.2
  · rw [if_pos e1] at h1
    by_cases e2 : b.2 = c.2
    · rw [if_pos e2] at h2
      rw [if_pos (e1.trans e2)]
      by_cases l1 : a.1.length = b.1.length
      · rw [if_pos l1] at h1
        by_cases l2 : b.1.length = c.1.length
        · rw [if_pos l2] at h2
          rw [if_pos (l1.trans l2)]
          exact lexB_trans _ _ _ h1 h2
        · rw [if_neg l2] at h2
          rw [if_neg (by omega)]
          simp only [decide_eq_true_eq] at *; omega
      · rw [if_neg l1] at h1
        by_cases l2 : b.1.length = c.1.length
        · rw [if_neg (by omega)]
          simp only [decide_eq_true_eq] at *; omega
        · rw [if_neg l2] at h2
          simp only [decide_eq_true_eq] at h1 h2
          rw [if_neg (by omega)]
          simp only [decide_eq_true_eq]; omega
    · rw [if_neg e2] at h2
      simp only [decide_eq_true_eq] at h2
      rw [if_neg (by omega)]
      simp only [decide_eq_true_eq]; omega
  · rw [if_neg e1] at h1
    simp only [decide_eq_true_eq] at h1
    by_cases e2 : b.2 = c.2
    · rw [if_neg (by omega)]
      simp only [decide_eq_true_eq]; omega
    · rw [if_neg e2] at h2
      simp only [decide_eq_true_eq] at h2
      rw [if_neg (by omega)]
      simp only [decide_eq_true_eq]; omega
theorem betB_total {a b : Choice} (h1 : betB a b = false) (h2 : betB b a = false) : a = b := by
  unfold betB at *
  by_cases e1 : a.2 = b.2
  · rw [if_pos e1] at h1
    rw [if_pos e1.symm] at h2
    by_cases l1 : a.1.length = b.1.length
    · rw [if_pos l1] at h1
      rw [if_pos l1.symm] at h2
      rcases lexB_total a.1 b.1 with q | q | q
      · rw [q] at h1; cases h1
      · exact Prod.ext q e1
      · rw [q] at h2; cases h2
    · rw [if_neg l1] at h1
      rw [if_neg (Ne.symm l1)] at h2
      simp only [decide_eq_false_iff_not] at *; omega
  · rw [if_neg e1] at h1
    rw [if_neg (Ne.symm e1)] at h2
    simp only [decide_eq_false_iff_not] at *; omega
/-- a is not worse than b. -/
def Le (a b : Choice) : Prop := betB b a = false
theorem Le.refl (a : Choice) : Le a a := betB_irrefl a
theorem le_of_bet {a b : Choice} (h : betB a b = true) : Le a b := by
  unfold Le
  cases q : betB b a with
  | false => rfl
  | true => have := betB_trans h q; rw [betB_irrefl] at this; cases this
theorem Le.trans {a b c : Choice} (h1 : Le a b) (h2 : Le b c) : Le a c := by
  unfold Le at *
  cases q : betB c a with
  | false => rfl
  | true =>
    exfalso
    cases r : betB b c with
    | true => rw [betB_trans r q] at h1; cases h1
    | false =>
      have e := betB_total r h2
      subst e
      rw [q] at h1; cases h1
theorem Le.antisymm {a b : Choice} (h1 : Le a b) (h2 : Le b a) : a = b := betB_total h2 h1
theorem Le.parts {a b : Choice} (h : Le a b) : a.2 ≤ b.2 ∧ (a.2 = b.2 → a.1.length ≤ b.1.length) := by
  unfold Le betB at h
  by_cases e : b.2 = a.2
  · rw [if_pos e] at h
    refine ⟨by omega, fun _ => ?_⟩
    by_cases l : b.1.length = a.1.length
    · omega
    · rw [if_neg l] at h
      simp only [decide_eq_false_iff_not] at h; omega
  · rw [if_neg e] at h
    simp only [decide_eq_false_iff_not] at h
    exact ⟨by omega, fun h2 => by omega⟩
/-- The same kind more on both sides. -/
theorem le_ins {K M : List Int} {c d e : Int} (i : Int) (h : Le (K, c) (M, d)) : Le (ins i K, c + e) (ins i M, d + e) := by
  unfold Le at *
  cases q : betB (ins i M, d + e) (ins i K, c + e) with
  | false => rfl
  | true =>
    exfalso
    unfold betB at h q
    simp only [ins_len] at q
    simp only at h
    by_cases e1 : d = c
    · rw [if_pos (by omega)] at q
      rw [if_pos e1] at h
      by_cases l1 : M.length = K.length
      · rw [if_pos (by omega)] at q
        rw [if_pos l1] at h
        rcases lexB_total M K with r | r | r
        · rw [r] at h; cases h
        · subst r; rw [lexB_irrefl] at q; cases q
        · have := ins_lex i K M l1.symm r
          have := lexB_asymm _ _ this
          rw [q] at this; cases this
      · rw [if_neg (by omega)] at q
        rw [if_neg l1] at h
        simp only [decide_eq_true_eq, decide_eq_false_iff_not] at q h
        omega
    · rw [if_neg (by omega)] at q
      rw [if_neg e1] at h
      simp only [decide_eq_true_eq, decide_eq_false_iff_not] at q h
      omega
/-- Media that last for y years, of the kinds from a on. -/
structure Sol (ks : List (Int × Int)) (a : Int) (y : Int) (K : List Int) : Prop where
  sorted : K.Pairwise (· ≤ ·)
  rng : ∀ v ∈ K, a ≤ v ∧ v < ks.length
  life : y ≤ lives ks K
structure IsBest (ks : List (Int × Int)) (a y : Int) (x : Choice) : Prop where
  sol : Sol ks a y x.1
  cost : x.2 = costs ks x.1
  best : ∀ K, Sol ks a y K → Le x (K, costs ks K)
theorem IsBest.unique {ks : List (Int × Int)} {a y : Int} {x z : Choice} (h : IsBest ks a y x) (k : IsBest ks a y z) : x = z := by
  have h1 := h.best z.1 k.sol
  have h2 := k.best x.1 h.sol
  rw [← k.cost] at h1
  rw [← h.cost] at h2
  exact h1.antisymm h2
/-- Lives and costs of kinds. -/
structure KOk (ks : List (Int × Int)) : Prop where
  life : ∀ v : Int, 0 ≤ v → v < ks.length → 1 ≤ lifeOf ks v
  cost : ∀ v : Int, 0 ≤ v → v < ks.length → 0 ≤ costOf ks v
theorem best_zero {ks : List (Int × Int)} (ok : KOk ks) {a y : Int} (ha : 0 ≤ a) (hy : y ≤ 0) : IsBest ks a y ([], 0) := by
  refine ⟨⟨List.Pairwise.nil, fun v hv => by simp at hv, by simpa [lives] using hy⟩, by simp [costs], fun K hK => ?_⟩
  have hc : ∀ K : List Int, (∀ v ∈ K, a ≤ v ∧ v < ks.length) → 0 ≤ costs ks K := by
    intro K
    induction K with
    | nil => intro _; simp [costs]
    | cons v K ih =>
      intro h
      have h1 := ih fun x hx => h x (by simp [hx])
      have h2 := h v (by simp)
      have h3 := ok.cost v (by omega) h2.2
      rw [costs_cons]; omega
  have h0 := hc K hK.rng
  unfold Le betB
  simp only
  by_cases e : costs ks K = 0
  · rw [if_pos e]
    by_cases l : K.length = ([] : List Int).length
    · rw [if_pos l]
      have : K = [] := List.eq_nil_of_length_eq_zero (by simpa using l)
      subst this; rfl
    · rw [if_neg l]; simp
  · rw [if_neg e]; simp; omega
/-- The best one at y: the best of the candidates. -/
def cand (ks : List (Int × Int)) (t : List Choice) (y : Int) (i : Nat) : Choice :=
  (ins i (t[(max (y - lifeOf ks i) 0).toNat]?.getD ([], 0)).1, (t[(max (y - lifeOf ks i) 0).toNat]?.getD ([], 0)).2 + costOf ks i)
def stepC (ks : List (Int × Int)) (t : List Choice) (y : Int) (x : Choice) (i : Nat) : Choice :=
  if i = 0 ∨ betB (cand ks t y i) x = true then cand ks t y i else x
def foldC (ks : List (Int × Int)) (t : List Choice) (y : Int) (n : Nat) : Choice := (List.range n).foldl (stepC ks t y) ([], 0)
def bests (ks : List (Int × Int)) : Nat → List Choice
  | 0 => [([], 0)]
  | y + 1 => bests ks y ++ [foldC ks (bests ks y) ((y + 1 : Nat) : Int) ks.length]
theorem bests_len (ks : List (Int × Int)) : ∀ y, (bests ks y).length = y + 1
  | 0 => rfl
  | y + 1 => by rw [bests, List.length_append, bests_len ks y]; rfl
def bestAt (ks : List (Int × Int)) (y : Nat) : Choice := (bests ks y)[y]?.getD ([], 0)
theorem bests_get (ks : List (Int × Int)) : ∀ (y k : Nat), k ≤ y → (bests ks y)[k]?.getD ([], 0) = bestAt ks k
  | 0, k, h => by rw [show k = 0 by omega]; rfl
  | y + 1, k, h => by
    by_cases e : k = y + 1
    · rw [e]; rfl
    · rw [bests, List.getElem?_append_left (by rw [bests_len]; omega)]
      exact bests_get ks y k (by omega)
theorem foldC_succ (ks : List (Int × Int)) (t : List Choice) (y : Int) (n : Nat) : foldC ks t y (n + 1) = stepC ks t y (foldC ks t y n) n := by
  unfold foldC
  rw [List.range_succ, List.foldl_append]
  rfl
theorem fold_is (ks : List (Int × Int)) (t : List Choice) (y : Int) : ∀ n, 1 ≤ n → (∃ i, i < n ∧ foldC ks t y n = cand ks t y i) ∧ ∀ i, i < n → Le (foldC ks t y n) (cand ks t y i)
  | 0, h => by omega
  | n + 1, _ => by
    rw [foldC_succ]
    rcases Nat.eq_zero_or_pos n with e | hn
    · subst e
      rw [stepC, if_pos (.inl rfl)]
      exact ⟨⟨0, by omega, rfl⟩, fun i hi => by rw [show i = 0 by omega]; exact Le.refl _⟩
    · obtain ⟨⟨i, i1, i2⟩, h2⟩ := fold_is ks t y n hn
      rw [stepC]
      by_cases hb : betB (cand ks t y n) (foldC ks t y n) = true
      · rw [if_pos (.inr hb)]
        refine ⟨⟨n, by omega, rfl⟩, fun j hj => ?_⟩
        rcases Nat.lt_or_ge j n with q | q
        · exact (le_of_bet hb).trans (h2 j q)
        · rw [show j = n by omega]; exact Le.refl _
      · rw [if_neg (by intro q; rcases q with q | q; omega; exact hb q)]
        refine ⟨⟨i, by omega, i2⟩, fun j hj => ?_⟩
        rcases Nat.lt_or_ge j n with q | q
        · exact h2 j q
        · rw [show j = n by omega]; simpa [Le] using hb
theorem best_is {ks : List (Int × Int)} (ok : KOk ks) (hk : ks ≠ []) (y : Nat) : IsBest ks 0 y (bestAt ks y) := by
  induction y using Nat.strongRecOn with
  | ind y ih =>
    cases y with
    | zero => exact best_zero ok (Int.le_refl _) (Int.le_refl _)
    | succ y =>
      have hlen : 1 ≤ ks.length := by cases ks with | nil => exact absurd rfl hk | cons _ _ => simp
      have e : bestAt ks (y + 1) = foldC ks (bests ks y) ((y + 1 : Nat) : Int) ks.length := by
        unfold bestAt
        rw [bests, List.getElem?_append_right (by rw [bests_len]; omega), bests_len, Nat.sub_self]; rfl
      have hc : ∀ i, i < ks.length → cand ks (bests ks y) ((y + 1 : Nat) : Int) i = (ins i (bestAt ks (max (((y + 1 : Nat) : Int) - lifeOf ks i) 0).toNat).1, (bestAt ks (max (((y + 1 : Nat) : Int) - lifeOf ks i) 0).toNat).2 + costOf ks i) := by
        intro i hi
        have := ok.life i (by omega) (by omega)
        unfold cand
        rw [bests_get ks y _ (by omega)]
      rw [e]
      obtain ⟨⟨i, i1, i2⟩, h2⟩ := fold_is ks (bests ks y) ((y + 1 : Nat) : Int) ks.length hlen
      have hl := ok.life i (by omega) (by omega)
      have hb := ih (max (((y + 1 : Nat) : Int) - lifeOf ks i) 0).toNat (by omega)
      refine ⟨⟨?_, ?_, ?_⟩, ?_, ?_⟩
      · rw [i2, hc i i1]; exact ins_sorted i _ hb.sol.sorted
      · rw [i2, hc i i1]
        intro v hv
        rcases (ins_mem _ _ _).1 hv with rfl | hv
        · omega
        · exact hb.sol.rng v hv
      · rw [i2, hc i i1]
        simp only
        rw [lives_ins]
        have := hb.sol.life
        omega
      · rw [i2, hc i i1]
        simp only
        rw [costs_ins, hb.cost]; omega
      · intro K hK
        obtain ⟨j, hj⟩ : ∃ j, j ∈ K := by
          cases K with
          | nil => have := hK.life; simp [lives] at this; omega
          | cons v K => exact ⟨v, by simp⟩
        have hjr := hK.rng j hj
        obtain ⟨m, rfl⟩ : ∃ m : Nat, j = m := ⟨j.toNat, by omega⟩
        have hlm := ok.life m (by omega) (by omega)
        have hbm := ih (max (((y + 1 : Nat) : Int) - lifeOf ks m) 0).toNat (by omega)
        have he := ins_erase m K hK.sorted hj
        have hsol : Sol ks 0 (max (((y + 1 : Nat) : Int) - lifeOf ks m) 0).toNat (K.erase m) := by
          refine ⟨hK.sorted.sublist List.erase_sublist, fun v hv => hK.rng v (List.mem_of_mem_erase hv), ?_⟩
          have h1 := hK.life
          rw [← he, lives_ins] at h1
          have h0 : ∀ M : List Int, (∀ v ∈ M, (0 : Int) ≤ v ∧ v < ks.length) → 0 ≤ lives ks M := by
            intro M
            induction M with
            | nil => intro _; simp [lives]
            | cons v M ihM =>
              intro h
              have a1 := ihM fun x hx => h x (by simp [hx])
              have a2 := h v (by simp)
              have a3 := ok.life v a2.1 a2.2
              rw [lives_cons]; omega
          have := h0 (K.erase m) fun v hv => hK.rng v (List.mem_of_mem_erase hv)
          omega
        have h3 := h2 m (by omega)
        rw [hc m (by omega)] at h3
        have h4 := le_ins (e := costOf ks m) (m : Int) (hbm.best _ hsol)
        have h5 : costs ks (K.erase m) + costOf ks m = costs ks K := by
          conv => rhs; rw [← he]
          rw [costs_ins]; omega
        rw [h5, he] at h4
        exact h3.trans h4
end Ren
