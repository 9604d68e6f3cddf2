import Derived.Test.YtbaahbpianingaaDoorAccS
namespace Acc
theorem prod_whole (n : Int) : red n + 100000 * n.tdiv 100000 = n ∧ 0 ≤ red n * n.tdiv 100000 := by
  refine ⟨Int.tmod_add_mul_tdiv n 100000, ?_⟩
  unfold red
  rcases Int.lt_or_le n 0 with h | h
  · obtain ⟨m, rfl⟩ : ∃ m : Nat, n = -(m : Int) := ⟨n.natAbs, by omega⟩
    rw [Int.neg_tmod, Int.neg_tdiv, Int.neg_mul_neg]
    exact Int.mul_nonneg (Int.tmod_nonneg _ (by omega)) (Int.tdiv_nonneg (by omega) (by omega))
  · exact Int.mul_nonneg (Int.tmod_nonneg _ h) (Int.tdiv_nonneg h (by omega))
theorem div_whole (a m : Int) (h : m ≠ 0) : a.tdiv m * m + a.tmod m = a ∧ (a.tmod m).natAbs < m.natAbs ∧ 0 ≤ a.tmod m * a := by
  refine ⟨by rw [Int.mul_comm]; exact Int.mul_tdiv_add_tmod a m, ?_, ?_⟩
  · rw [Int.natAbs_tmod]
    exact Nat.mod_lt _ (by omega)
  · rcases Int.lt_or_le a 0 with q | q
    · obtain ⟨k, rfl⟩ : ∃ k : Nat, a = -(k : Int) := ⟨a.natAbs, by omega⟩
      rw [Int.neg_tmod, Int.neg_mul_neg]
      exact Int.mul_nonneg (Int.tmod_nonneg _ (by omega)) (by omega)
    · exact Int.mul_nonneg (Int.tmod_nonneg _ q) q
end Acc
