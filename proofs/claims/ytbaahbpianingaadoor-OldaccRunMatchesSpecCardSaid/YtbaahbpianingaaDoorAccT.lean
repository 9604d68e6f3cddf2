import Derived.Lib.ItoaNum
import Derived.Laws.BytesArg
import Derived.Test.YtbaahbpianingaaDoorAccS
namespace Acc
open Go
theorem dec_digits (n : Nat) : Lib.decDigits n = (dec n).map fun c => UInt8.ofNat c.toNat := by
  induction n using Nat.strongRecOn with
  | ind n ih =>
    by_cases h : n < 10
    · rw [Lib.decDigits, dif_pos h, dec_small h]
      simp only [List.map_cons, List.map_nil]
      congr 2
    · rw [Lib.decDigits, dif_neg h, dec_big h, ih (n / 10) (by omega), List.map_append]
      simp only [List.map_cons, List.map_nil]
      congr 3
theorem itoa_signed (n : Int) : (⟨(Lib.itoa n).toArray⟩ : ByteArray) = strOfNums (signed n) := by
  unfold Lib.itoa signed strOfNums
  split
  · rename_i h
    rw [dec_digits, show n.natAbs = (-n).toNat by omega]
    rfl
  · rw [dec_digits]
theorem dec_byt (n : Nat) : ∀ c ∈ dec n, 48 ≤ c ∧ c ≤ 57 := by
  induction n using Nat.strongRecOn with
  | ind n ih =>
    by_cases h : n < 10
    · rw [dec_small h]; intro c hc; rw [List.mem_singleton.1 hc]; omega
    · rw [dec_big h]
      intro c hc
      rcases List.mem_append.1 hc with e | e
      · exact ih (n / 10) (by omega) c e
      · rw [List.mem_singleton.1 e]; omega
theorem signed_byt (n : Int) : ∀ c ∈ signed n, 0 ≤ c ∧ c < 256 := by
  unfold signed
  split
  · intro c hc
    rcases List.mem_cons.1 hc with e | e
    · omega
    · have := dec_byt _ c e; omega
  · intro c hc; have := dec_byt _ c hc; omega
end Acc
