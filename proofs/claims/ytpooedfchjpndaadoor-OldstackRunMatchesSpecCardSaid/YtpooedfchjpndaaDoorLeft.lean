import Derived.Test.YtpooedfchjpndaaDoorComp
import Derived.Laws.BitsAllLaws
import Derived.Laws.BitsLemmas
namespace Go.Proofs.YtpooedfchjpndaaDoor
open Go Go.Proofs Go.RowKit
set_option maxHeartbeats 1600000
theorem ofInt_i64 (a : Nat) (ha : a < 9223372036854775808) : (BitVec.ofInt 64 (a : Int)).toNat = a := by
  rw [BitVec.ofInt_natCast, BitVec.toNat_ofNat]; exact Nat.mod_eq_of_lt (by omega)
theorem i64_and_nat (a b : Nat) (ha : a < 9223372036854775808) (hb : b < 9223372036854775808) : bits .and .i64 (a : Int) (b : Int) = ((a &&& b : Nat) : Int) := by
  have hx : a &&& b < 2 ^ 63 := Nat.and_lt_two_pow _ (by omega)
  show IntKind.i64.wrap ((BitVec.ofInt 64 (a : Int) &&& BitVec.ofInt 64 (b : Int)).toNat : Int) = _
  rw [BitVec.toNat_and, ofInt_i64 a ha, ofInt_i64 b hb, IntKind.wrap_i64]
  omega
theorem i64_or_nat (a b : Nat) (ha : a < 9223372036854775808) (hb : b < 9223372036854775808) : bits .or .i64 (a : Int) (b : Int) = ((a ||| b : Nat) : Int) := by
  have hx : a ||| b < 2 ^ 63 := Nat.or_lt_two_pow (by omega) (by omega)
  show IntKind.i64.wrap ((BitVec.ofInt 64 (a : Int) ||| BitVec.ofInt 64 (b : Int)).toNat : Int) = _
  rw [BitVec.toNat_or, ofInt_i64 a ha, ofInt_i64 b hb, IntKind.wrap_i64]
  omega
theorem i64_xor_nat (a b : Nat) (ha : a < 9223372036854775808) (hb : b < 9223372036854775808) : bits .xor .i64 (a : Int) (b : Int) = ((a ^^^ b : Nat) : Int) := by
  have hx : a ^^^ b < 2 ^ 63 := Nat.xor_lt_two_pow (by omega) (by omega)
  show IntKind.i64.wrap ((BitVec.ofInt 64 (a : Int) ^^^ BitVec.ofInt 64 (b : Int)).toNat : Int) = _
  rw [BitVec.toNat_xor, ofInt_i64 a ha, ofInt_i64 b hb, IntKind.wrap_i64]
  omega
def leftF (op : Int) (a b : Nat) : Int :=
  if op = 6 then (a : Int) + b
  else if op = 7 then (a : Int) - b + 65536
  else if op = 8 then (a : Int) * b
  else if op = 9 then (a : Int) / b
  else if op = 10 then (a : Int) % b
  else if op = 11 then ((a &&& b : Nat) : Int)
  else if op = 12 then ((a ||| b : Nat) : Int)
  else if op = 13 then ((a ^^^ b : Nat) : Int)
  else if op = 14 then (if sgn16 a < sgn16 b then 1 else 0)
  else (if (a : Int) = b then 1 else 0)
theorem signed16_c (n : Int) (w : World) (h0 : 0 ≤ n) (h1 : n < 65536) : Calls Tryd.prog 34 #[.int .u16 n] w fun e w' => e = .returned (.int .i64 (sgn16 n)) ∧ w = w' := by
  by_cases h : 32768 ≤ n
  · go_enter Tryd.func34, Tryd.ntmps34
    go_wp2
    go_ret
    exact ⟨ret_int (by unfold sgn16; rw [if_pos h]), rfl⟩
  · go_enter Tryd.func34, Tryd.ntmps34
    go_wp2
    go_ret
    exact ⟨ret_int (by unfold sgn16; rw [if_neg (by omega)]), rfl⟩
theorem left16_c (op : Int) (a b : Nat) (w : World) (ho : 6 ≤ op ∧ op ≤ 15) (ha : a < 65536) (hb : b < 65536) (hz : op = 9 ∨ op = 10 → b ≠ 0) :
    Calls Tryd.prog 32 #[.int .i64 op, .int .i64 a, .int .i64 b] w fun e w' => e = .returned (.int .i64 (leftF op a b)) ∧ w = w' := by
  obtain rfl | rfl | rfl | rfl | rfl | rfl | rfl | rfl | rfl | rfl : op = 6 ∨ op = 7 ∨ op = 8 ∨ op = 9 ∨ op = 10 ∨ op = 11 ∨ op = 12 ∨ op = 13 ∨ op = 14 ∨ op = 15 := by omega
  · clear hz
    go_enter Tryd.func32, Tryd.ntmps32
    go_wp2
    go_ret
    exact ⟨rfl, rfl⟩
  · clear hz
    go_enter Tryd.func32, Tryd.ntmps32
    go_wp2
    go_ret
    exact ⟨rfl, rfl⟩
  · clear hz
    have hm : wrap64 ((a : Int) * (b : Int)) = (a : Int) * (b : Int) := by
      have h1 : a * b ≤ 65535 * 65535 := Nat.mul_le_mul (by omega) (by omega)
      have h2 : ((a * b : Nat) : Int) = (a : Int) * (b : Int) := Int.natCast_mul a b
      rw [← h2]
      exact IntWalk.wrap64_in _ ⟨by omega, by omega⟩
    have HM := Lib.hid hm
    clear hm
    go_enter Tryd.func32, Tryd.ntmps32
    go_wp2
    go_ret
    refine ⟨ret_int ?_, rfl⟩
    show _ = (a : Int) * (b : Int)
    first | rfl | exact HM.out
  · have hb0 : 1 ≤ b := by have := hz (.inl rfl); omega
    clear hz
    go_enter Tryd.func32, Tryd.ntmps32
    go_wp2
    go_ret
    refine ⟨ret_int ?_, rfl⟩
    have h1 : 0 ≤ (a : Int) / b := Int.ediv_nonneg (by omega) (by omega)
    have h2 : (a : Int) / b ≤ a := Int.ediv_le_self b (by omega)
    exact IntWalk.wrap64_in _ ⟨by omega, by omega⟩
  · have hb0 : 1 ≤ b := by have := hz (.inr rfl); omega
    clear hz
    go_enter Tryd.func32, Tryd.ntmps32
    go_wp2
    go_ret
    exact ⟨rfl, rfl⟩
  · clear hz
    go_enter Tryd.func32, Tryd.ntmps32
    go_wp2
    go_ret
    exact ⟨ret_int (i64_and_nat a b (by omega) (by omega)), rfl⟩
  · clear hz
    go_enter Tryd.func32, Tryd.ntmps32
    go_wp2
    go_ret
    exact ⟨ret_int (i64_or_nat a b (by omega) (by omega)), rfl⟩
  · clear hz
    go_enter Tryd.func32, Tryd.ntmps32
    go_wp2
    go_ret
    exact ⟨ret_int (i64_xor_nat a b (by omega) (by omega)), rfl⟩
  · clear hz
    by_cases hs : sgn16 a < sgn16 b
    · go_enter Tryd.func32, Tryd.ntmps32
      go_wp2_with (go_at_call 34; refine (signed16_c _ _ (by omega) (by omega)).mono ?_; rintro e w' ⟨rfl, rfl⟩)
      go_ret
      exact ⟨ret_int (by show _ = (if sgn16 a < sgn16 b then (1 : Int) else 0); rw [if_pos hs]), rfl⟩
    · go_enter Tryd.func32, Tryd.ntmps32
      go_wp2_with (go_at_call 34; refine (signed16_c _ _ (by omega) (by omega)).mono ?_; rintro e w' ⟨rfl, rfl⟩)
      go_ret
      exact ⟨ret_int (by show _ = (if sgn16 a < sgn16 b then (1 : Int) else 0); rw [if_neg (by omega)]), rfl⟩
  · clear hz
    by_cases hs : a = b
    · subst hs
      go_enter Tryd.func32, Tryd.ntmps32
      go_wp2
      go_ret
      exact ⟨ret_int (by show _ = (if (a : Int) = a then (1 : Int) else 0); rw [if_pos rfl]), rfl⟩
    · have hs' : ((a : Int) == (b : Int)) = false := by simp; omega
      have hs2 : (a == b) = false := by simpa using hs
      go_enter Tryd.func32, Tryd.ntmps32
      go_wp2
      go_ret
      exact ⟨ret_int (by show _ = (if (a : Int) = b then (1 : Int) else 0); rw [if_neg (by omega)]), rfl⟩
theorem left_comp {op : Int} {a b : Nat} (ho : 6 ≤ op ∧ op ≤ 15) (ha : a < 65536) (hb : b < 65536) (hz : op = 9 ∨ op = 10 → b ≠ 0) : 0 ≤ leftF op a b ∧ leftF op a b % 65536 = compF op a b ∧ leftF op a b < 9000000000 := by
  have na : a < 2 ^ 16 := by omega
  have nb : b < 2 ^ 16 := by omega
  obtain rfl | rfl | rfl | rfl | rfl | rfl | rfl | rfl | rfl | rfl : op = 6 ∨ op = 7 ∨ op = 8 ∨ op = 9 ∨ op = 10 ∨ op = 11 ∨ op = 12 ∨ op = 13 ∨ op = 14 ∨ op = 15 := by omega
  · show 0 ≤ (a : Int) + b ∧ ((a : Int) + b) % 65536 = ((a : Int) + b) % 65536 ∧ (a : Int) + b < 9000000000
    omega
  · show 0 ≤ (a : Int) - b + 65536 ∧ ((a : Int) - b + 65536) % 65536 = ((a : Int) - b) % 65536 ∧ (a : Int) - b + 65536 < 9000000000
    omega
  · have h1 : a * b ≤ 65535 * 65535 := Nat.mul_le_mul (by omega) (by omega)
    have h2 : ((a * b : Nat) : Int) = (a : Int) * (b : Int) := Int.natCast_mul a b
    show 0 ≤ (a : Int) * b ∧ ((a : Int) * b) % 65536 = ((a : Int) * b) % 65536 ∧ (a : Int) * b < 9000000000
    rw [← h2]
    omega
  · show 0 ≤ (a : Int) / b ∧ ((a : Int) / b) % 65536 = (a : Int) / b ∧ (a : Int) / b < 9000000000
    have h1 : 0 ≤ (a : Int) / b := Int.ediv_nonneg (by omega) (by omega)
    have h2 : (a : Int) / b ≤ a := Int.ediv_le_self b (by omega)
    omega
  · show 0 ≤ (a : Int) % b ∧ ((a : Int) % b) % 65536 = (a : Int) % b ∧ (a : Int) % b < 9000000000
    have hb' : (0 : Int) < b := by have := hz (.inr rfl); omega
    have h1 := Int.emod_nonneg (a : Int) (show (b : Int) ≠ 0 by omega)
    have h2 := Int.emod_lt_of_pos (a : Int) hb'
    omega
  · show 0 ≤ ((a &&& b : Nat) : Int) ∧ ((a &&& b : Nat) : Int) % 65536 = (((a : Int).toNat &&& (b : Int).toNat : Nat) : Int) ∧ ((a &&& b : Nat) : Int) < 9000000000
    have := Nat.and_lt_two_pow a nb
    simp only [Int.toNat_natCast]
    omega
  · show 0 ≤ ((a ||| b : Nat) : Int) ∧ ((a ||| b : Nat) : Int) % 65536 = (((a : Int).toNat ||| (b : Int).toNat : Nat) : Int) ∧ ((a ||| b : Nat) : Int) < 9000000000
    have := Nat.or_lt_two_pow na nb
    simp only [Int.toNat_natCast]
    omega
  · show 0 ≤ ((a ^^^ b : Nat) : Int) ∧ ((a ^^^ b : Nat) : Int) % 65536 = (((a : Int).toNat ^^^ (b : Int).toNat : Nat) : Int) ∧ ((a ^^^ b : Nat) : Int) < 9000000000
    have := Nat.xor_lt_two_pow na nb
    simp only [Int.toNat_natCast]
    omega
  · show 0 ≤ (if sgn16 a < sgn16 b then (1 : Int) else 0) ∧ (if sgn16 a < sgn16 b then (1 : Int) else 0) % 65536 = (if sgn16 a < sgn16 b then (1 : Int) else 0) ∧ (if sgn16 a < sgn16 b then (1 : Int) else 0) < 9000000000
    split <;> omega
  · show 0 ≤ (if (a : Int) = b then (1 : Int) else 0) ∧ (if (a : Int) = b then (1 : Int) else 0) % 65536 = (if (a : Int) = b then (1 : Int) else 0) ∧ (if (a : Int) = b then (1 : Int) else 0) < 9000000000
    split <;> omega
end Go.Proofs.YtpooedfchjpndaaDoor
