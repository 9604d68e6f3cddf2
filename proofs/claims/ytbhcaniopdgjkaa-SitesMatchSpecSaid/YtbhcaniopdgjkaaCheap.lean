import Derived.Test.YtbhcaniopdgjkaaZones
namespace Plain
/-- One choice is better than another: cost, number, order. -/
def betterB (cost : List Int → Int) (c b : List Int) : Bool := decide (cost c < cost b) || (decide (cost c = cost b) && (decide (c.length < b.length) || (decide (c.length = b.length) && lexB c b)))
/-- The search for the cheapest choice with a property. -/
def scanCheap (cost : List Int → Int) (prop : List Int → Bool) : List (List Int) → Option (List Int) → Option (List Int)
  | [], st => st
  | c :: cs, none => scanCheap cost prop cs (if prop c then some c else none)
  | c :: cs, some b => scanCheap cost prop cs (if betterB cost c b && prop c then some c else some b)
theorem scanCheap_congr {cost : List Int → Int} {p q : List Int → Bool} : ∀ (cs : List (List Int)) (st : Option (List Int)), (∀ c ∈ cs, p c = q c) → scanCheap cost p cs st = scanCheap cost q cs st
  | [], _, _ => rfl
  | c :: cs, none, h => by rw [scanCheap, scanCheap, h c (by simp)]; exact scanCheap_congr cs _ fun d hd => h d (by simp [hd])
  | c :: cs, some b, h => by rw [scanCheap, scanCheap, h c (by simp)]; exact scanCheap_congr cs _ fun d hd => h d (by simp [hd])
/-- What is found has the property, is a candidate, and none with the property costs less. -/
structure Found (cost : List Int → Int) (prop : List Int → Bool) (cs : List (List Int)) (st : Option (List Int)) : Prop where
  none_ : st = none → ∀ c ∈ cs, prop c = false
  some_ : ∀ b, st = some b → b ∈ cs ∧ prop b = true ∧ ∀ c ∈ cs, prop c = true → cost b ≤ cost c
theorem better_le {cost : List Int → Int} {c b : List Int} (h : betterB cost c b = true) : cost c ≤ cost b := by
  simp only [betterB, Bool.or_eq_true, Bool.and_eq_true, decide_eq_true_eq] at h
  rcases h with h | ⟨h, _⟩ <;> omega
theorem better_not {cost : List Int → Int} {c b : List Int} (h : betterB cost c b = false) : cost b ≤ cost c := by
  rcases Int.lt_or_le (cost c) (cost b) with q | q
  · simp [betterB, q] at h
  · exact q
theorem scanCheap_found {cost : List Int → Int} {prop : List Int → Bool} : ∀ (cs pre : List (List Int)) (st : Option (List Int)), Found cost prop pre st → Found cost prop (pre ++ cs) (scanCheap cost prop cs st)
  | [], pre, st, h => by simpa [scanCheap] using h
  | c :: cs, pre, none, h => by
    have e : pre ++ c :: cs = (pre ++ [c]) ++ cs := by simp
    rw [e, scanCheap]
    refine scanCheap_found cs (pre ++ [c]) _ ?_
    have hn := h.none_ rfl
    by_cases hp : prop c = true
    · rw [if_pos hp]
      refine ⟨fun q => (by cases q), fun b hb => ?_⟩
      cases hb
      refine ⟨by simp, hp, fun d hd hpd => ?_⟩
      rcases List.mem_append.1 hd with hd | hd
      · rw [hn d hd] at hpd; cases hpd
      · rw [List.mem_singleton.1 hd]; exact Int.le_refl _
    · rw [if_neg hp]
      refine ⟨fun _ d hd => ?_, fun b hb => (by cases hb)⟩
      rcases List.mem_append.1 hd with hd | hd
      · exact hn d hd
      · rw [List.mem_singleton.1 hd]; simpa using hp
  | c :: cs, pre, some b, h => by
    have e : pre ++ c :: cs = (pre ++ [c]) ++ cs := by simp
    rw [e, scanCheap]
    refine scanCheap_found cs (pre ++ [c]) _ ?_
    obtain ⟨h1, h2, h3⟩ := h.some_ b rfl
    by_cases hc : (betterB cost c b && prop c) = true
    · rw [if_pos hc]
      simp only [Bool.and_eq_true] at hc
      refine ⟨fun q => (by cases q), fun b' hb => ?_⟩
      cases hb
      refine ⟨by simp, hc.2, fun d hd hpd => ?_⟩
      rcases List.mem_append.1 hd with hd | hd
      · exact Int.le_trans (better_le hc.1) (h3 d hd hpd)
      · rw [List.mem_singleton.1 hd]; exact Int.le_refl _
    · rw [if_neg hc]
      refine ⟨fun q => (by cases q), fun b' hb => ?_⟩
      cases hb
      refine ⟨by simp [h1], h2, fun d hd hpd => ?_⟩
      rcases List.mem_append.1 hd with hd | hd
      · exact h3 d hd hpd
      · rw [List.mem_singleton.1 hd] at hpd ⊢
        have : betterB cost c b = false := by
          cases hb : betterB cost c b with
          | false => rfl
          | true => rw [hb, hpd] at hc; exact absurd rfl hc
        exact better_not this
theorem cheap_found (cost : List Int → Int) (prop : List Int → Bool) (cs : List (List Int)) : Found cost prop cs (scanCheap cost prop cs none) := by
  have := scanCheap_found (cost := cost) (prop := prop) cs [] none ⟨fun _ c hc => (by simp at hc), fun b hb => (by cases hb)⟩
  simpa using this
/-- More is asked: not cheaper. -/
theorem cheap_mono {cost : List Int → Int} {p q : List Int → Bool} {cs : List (List Int)} (h : ∀ c ∈ cs, q c = true → p c = true) :
    (scanCheap cost p cs none = none → scanCheap cost q cs none = none) ∧ ∀ a b, scanCheap cost p cs none = some a → scanCheap cost q cs none = some b → p b = true ∧ cost a ≤ cost b := by
  have fp := cheap_found cost p cs
  have fq := cheap_found cost q cs
  refine ⟨fun hn => ?_, fun a b ha hb => ?_⟩
  · cases hq : scanCheap cost q cs none with
    | none => rfl
    | some b =>
      obtain ⟨b1, b2, _⟩ := fq.some_ b hq
      have := fp.none_ hn b b1
      rw [h b b1 b2] at this; cases this
  · obtain ⟨_, _, a3⟩ := fp.some_ a ha
    obtain ⟨b1, b2, _⟩ := fq.some_ b hb
    exact ⟨h b b1 b2, a3 b b1 (h b b1 b2)⟩
/-- The number of sites that are left: with more losses fewer. -/
theorem few_mono {l : List SiteD} {zs chosen : List Int} {a b : Nat} (h : a ≤ b) : fewF l chosen zs b ≤ fewF l chosen zs a := by
  obtain ⟨⟨c, s, hl, e⟩, _⟩ := few_spec l zs chosen a
  rw [e]
  exact (few_spec l zs chosen b).2 c s (by omega)
end Plain
