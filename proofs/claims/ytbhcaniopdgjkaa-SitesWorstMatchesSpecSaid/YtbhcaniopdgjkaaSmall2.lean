import Derived.Test.YtbhcaniopdgjkaaSmall
namespace Go.Proofs.Ytbhcaniopdgjkaa
open Go Go.Proofs Go.RowKit
set_option maxHeartbeats 1600000
set_option maxRecDepth 100000
def powI (n : Nat) : Int := ((2 ^ n : Nat) : Int)
theorem powI_succ (n : Nat) : powI (n + 1) = 2 * powI n := by unfold powI; rw [Nat.pow_succ]; omega
theorem powI_le {n : Nat} (h : n ≤ 20) : 1 ≤ powI n ∧ powI n ≤ 1048576 := by
  unfold powI
  have h1 : 2 ^ n ≤ 2 ^ 20 := Nat.pow_le_pow_right (by omega) h
  have h2 : 0 < 2 ^ n := Nat.two_pow_pos n
  have h3 : (2 : Nat) ^ 20 = 1048576 := by decide
  rw [h3] at h1
  constructor <;> omega
theorem power_c (N : Nat) (w : World) (hN : N ≤ 20) : Calls Try.prog 61 #[.int .i64 (N : Int)] w fun e w' => e = .returned (.int .i64 (powI N)) ∧ w = w' := by
  go_enter Try.func61, Try.ntmps61
  go_wp2
  go_loop [3, 4] (fun p i => ∃ k : Nat, k ≤ N ∧ i = .int .i64 k ∧ p = .int .i64 (powI k)) (fun _ i => N - (intOf i).toNat)
  case atStart => exact ⟨0, Nat.zero_le _, rfl, rfl⟩
  case round =>
    obtain ⟨k, hk, rfl, rfl⟩ := hrel
    obtain ⟨p1, p2⟩ := powI_le (n := k) (by omega)
    have HS := Lib.hid (powI_succ k)
    by_cases hlt : k < N
    · go_wp2
      go_round
      case rel => exact ⟨k + 1, by omega, by go_num, by rw [HS.out]⟩
      case measure => simp [intOf]; omega
    · obtain rfl : k = N := by omega
      go_wp2
      go_ret
      exact ⟨rfl, rfl⟩
end Go.Proofs.Ytbhcaniopdgjkaa
