import Derived.Test.YtnijfndpefkoeaaRenC
namespace Ren
theorem best_step (ks : List (Int × Int)) (y : Nat) : bestAt ks (y + 1) = foldC ks (bests ks y) ((y + 1 : Nat) : Int) ks.length := by
  unfold bestAt
  rw [bests, List.getElem?_append_right (by rw [bests_len]; omega), bests_len, Nat.sub_self]; rfl
theorem bests_snoc (ks : List (Int × Int)) (y : Nat) : bests ks (y + 1) = bests ks y ++ [foldC ks (bests ks y) ((y + 1 : Nat) : Int) ks.length] := rfl
theorem bests_some (ks : List (Int × Int)) {y k : Nat} (h : k ≤ y) : (bests ks y)[k]? = some (bestAt ks k) := by
  have h1 := bests_get ks y k h
  have h2 : k < (bests ks y).length := by rw [bests_len]; omega
  rw [List.getElem?_eq_getElem h2] at h1 ⊢
  rw [← h1]; rfl
structure Small (y : Nat) (c : Choice) : Prop where
  len : c.1.length ≤ y
  sorted : c.1.Pairwise (· ≤ ·)
  low : 0 ≤ c.2
  top : c.2 ≤ y * 1000000
structure KBd (ks : List (Int × Int)) : Prop where
  life : ∀ (i : Nat) (p : Int × Int), ks[i]? = some p → 1 ≤ p.1 ∧ p.1 ≤ 1000
  cost : ∀ (i : Nat) (p : Int × Int), ks[i]? = some p → 0 ≤ p.2 ∧ p.2 ≤ 1000000
theorem small_nil (y : Nat) : Small y ([], 0) := ⟨Nat.zero_le _, List.Pairwise.nil, Int.le_refl _, by show (0 : Int) ≤ _; omega⟩
def backF (y : Nat) (life : Int) : Nat := (max (((y + 1 : Nat) : Int) - life) 0).toNat
theorem back_le {y : Nat} {life : Int} (h : 1 ≤ life) : backF y life ≤ y := by unfold backF; omega
theorem cand_eq {ks : List (Int × Int)} {y i : Nat} {p : Int × Int} (h : ks[i]? = some p) (hl : 1 ≤ p.1) :
    cand ks (bests ks y) ((y + 1 : Nat) : Int) i = (ins i (bestAt ks (backF y p.1)).1, (bestAt ks (backF y p.1)).2 + p.2) := by
  have e1 : lifeOf ks i = p.1 := by unfold lifeOf; rw [Int.toNat_natCast, h]; rfl
  have e2 : costOf ks i = p.2 := by unfold costOf; rw [Int.toNat_natCast, h]; rfl
  have h1 := back_le (y := y) hl
  unfold cand
  rw [e1, e2, show (max (((y + 1 : Nat) : Int) - p.1) 0).toNat = backF y p.1 from rfl, bests_get ks y _ h1]
theorem cand_small {ks : List (Int × Int)} (kb : KBd ks) {y i : Nat} {p : Int × Int} (h : ks[i]? = some p) (hs : ∀ k, k ≤ y → Small k (bestAt ks k)) :
    Small (y + 1) (cand ks (bests ks y) ((y + 1 : Nat) : Int) i) := by
  have h1 := kb.life i p h
  have h2 := kb.cost i p h
  rw [cand_eq h h1.1]
  have h3 := back_le (y := y) h1.1
  have h4 := hs _ h3
  refine ⟨?_, ins_sorted _ _ h4.sorted, ?_, ?_⟩
  · simp only [ins_len]; have := h4.len; omega
  · have := h4.low; simp only; omega
  · have := h4.top; simp only; omega
theorem fold_small {ks : List (Int × Int)} (kb : KBd ks) {y : Nat} (hs : ∀ k, k ≤ y → Small k (bestAt ks k)) : ∀ n, n ≤ ks.length → Small (y + 1) (foldC ks (bests ks y) ((y + 1 : Nat) : Int) n)
  | 0, _ => small_nil _
  | n + 1, h => by
    rw [foldC_succ, stepC]
    split
    · exact cand_small kb (List.getElem?_eq_getElem (show n < ks.length by omega)) hs
    · exact fold_small kb hs n (by omega)
theorem best_small {ks : List (Int × Int)} (kb : KBd ks) : ∀ y k, k ≤ y → Small k (bestAt ks k)
  | 0, k, h => by rw [show k = 0 by omega]; exact small_nil 0
  | y + 1, k, h => by
    by_cases e : k = y + 1
    · rw [e, best_step]
      exact fold_small kb (best_small kb y) _ (Nat.le_refl _)
    · exact best_small kb y k (by omega)
end Ren
