import Derived.Test.YtbaahbpianingaaDoorAccE
namespace Acc
theorem red_neg (n : Int) : red (-n) = -red n := Int.neg_tmod n 100000
theorem red_nat (n : Nat) : red (n : Int) = ((n % 100000 : Nat) : Int) := rfl
theorem red_mul_nat (m k : Nat) : red ((k : Int) * red (m : Int)) = red ((k : Int) * (m : Int)) := by
  rw [red_nat, ← Int.natCast_mul, ← Int.natCast_mul, red_nat, red_nat, Nat.mul_mod_mod]
theorem red_mul (n : Int) (k : Nat) : red ((k : Int) * red n) = red ((k : Int) * n) := by
  rcases Int.lt_or_le n 0 with h | h
  · obtain ⟨m, rfl⟩ : ∃ m : Nat, n = -(m : Int) := ⟨n.natAbs, by omega⟩
    rw [red_neg, Int.mul_neg, Int.mul_neg, red_neg, red_neg, red_mul_nat]
  · obtain ⟨m, rfl⟩ : ∃ m : Nat, n = (m : Int) := ⟨n.toNat, by omega⟩
    exact red_mul_nat m k
/-- The specification's shift to the left. -/
def itR : Nat → Int → Int
  | 0, a => a
  | k + 1, a => itR k (red (10 * a))
theorem itR_red : ∀ (k : Nat) (a : Int), five a = true → itR k a = red (((10 ^ k : Nat) : Int) * a)
  | 0, a, h => by rw [itR, Nat.pow_zero]; simp [red_self.2 h]
  | k + 1, a, _ => by
    rw [itR, itR_red k _ (red_five _), red_mul, Nat.pow_succ]
    congr 1
    rw [Int.natCast_mul, Int.mul_assoc]
    rfl
theorem red_big (a : Int) (k : Nat) (h : 5 ≤ k) : red (((10 ^ k : Nat) : Int) * a) = 0 := by
  unfold red
  obtain ⟨j, rfl⟩ : ∃ j, k = j + 5 := ⟨k - 5, by omega⟩
  rw [Nat.pow_add, Int.natCast_mul, Int.mul_assoc, Int.mul_comm ((10 ^ 5 : Nat) : Int) a, ← Int.mul_assoc]
  exact Int.mul_tmod_left _ _
theorem shiftF_nat (k : Nat) : shiftF (k : Int) = ((10 ^ (min k 5) : Nat) : Int) := by
  unfold shiftF
  have : (min (k : Int) 5).toNat = min k 5 := by omega
  rw [this, Int.natCast_pow]
  rfl
theorem itR_shift (k : Nat) (a : Int) (h : five a = true) : itR k a = red (a * shiftF (k : Int)) := by
  rw [itR_red k a h, shiftF_nat, Int.mul_comm a]
  rcases Nat.lt_or_ge k 5 with q | q
  · rw [Nat.min_eq_left (by omega)]
  · rw [red_big a k q, red_big a _ (by omega)]
/-- The specification's shift to the right. -/
def itD : Nat → Int → Int
  | 0, a => a
  | k + 1, a => itD k (a.tdiv 10)
theorem tdiv_nat (m k : Nat) : (m : Int).tdiv (k : Int) = ((m / k : Nat) : Int) := rfl
theorem itD_nat : ∀ (k m : Nat), itD k (m : Int) = ((m / 10 ^ k : Nat) : Int)
  | 0, m => by rw [itD, Nat.pow_zero, Nat.div_one]
  | k + 1, m => by
    rw [itD]
    have : (m : Int).tdiv 10 = ((m / 10 : Nat) : Int) := rfl
    rw [this, itD_nat k, Nat.div_div_eq_div_mul, Nat.pow_succ, Nat.mul_comm]
theorem itD_neg : ∀ (k : Nat) (a : Int), itD k (-a) = -itD k a
  | 0, _ => rfl
  | k + 1, a => by rw [itD, itD, Int.neg_tdiv, itD_neg k]
theorem itD_shift (k : Nat) (a : Int) (h : five a = true) : itD k a = a.tdiv (shiftF (k : Int)) := by
  rw [five_iff] at h
  rw [shiftF_nat]
  have key : ∀ m : Nat, m ≤ 99999 → m / 10 ^ k = m / 10 ^ (min k 5) := by
    intro m hm
    rcases Nat.lt_or_ge k 5 with q | q
    · rw [Nat.min_eq_left (by omega)]
    · have h5 : m < 10 ^ 5 := by omega
      have hk : m < 10 ^ k := Nat.lt_of_lt_of_le h5 (Nat.pow_le_pow_right (by omega) q)
      rw [Nat.min_eq_right q, Nat.div_eq_of_lt hk, Nat.div_eq_of_lt h5]
  rcases Int.lt_or_le a 0 with q | q
  · obtain ⟨m, rfl⟩ : ∃ m : Nat, a = -(m : Int) := ⟨a.natAbs, by omega⟩
    rw [itD_neg, itD_nat, Int.neg_tdiv, tdiv_nat, key m (by omega)]
  · obtain ⟨m, rfl⟩ : ∃ m : Nat, a = (m : Int) := ⟨a.toNat, by omega⟩
    rw [itD_nat, tdiv_nat, key m (by omega)]
theorem over_five (n : Int) : decide (red n ≠ n) = !five n := by
  cases h : five n with
  | true => simp [red_self.2 h]
  | false =>
    have : red n ≠ n := fun e => by rw [red_self.1 e] at h; cases h
    simp [this]
end Acc
