import Derived.Test.YtpooedfchjpndaaDoorMach
namespace Go.Proofs.YtpooedfchjpndaaDoor
open Go Go.Proofs Go.RowKit
set_option maxHeartbeats 400000
theorem one_c (b : Bool) (w : World) : Calls Tryd.prog 35 #[.bool b] w fun e w' => e = .returned (.int .u16 (if b = true then 1 else 0)) ∧ w = w' := by
  cases b
  all_goals go_enter Tryd.func35, Tryd.ntmps35
  all_goals go_wp2
  all_goals go_ret
  all_goals simp
theorem wrap_u16_in {n : Int} (h1 : 0 ≤ n) (h2 : n < 65536) : IntKind.u16.wrap n = n := by rw [IntKind.wrap_u16]; omega
theorem wrap_i16_sgn {n : Int} (h1 : 0 ≤ n) (h2 : n < 65536) : IntKind.i16.wrap n = sgn16 n := by
  have hw : IntKind.i16.wrap n = if 32768 ≤ n % 65536 then n % 65536 - 65536 else n % 65536 := by
    simp [IntKind.wrap, IntKind.bits, IntKind.signed]
  rw [hw]
  unfold sgn16
  by_cases h : 32768 ≤ n
  · rw [if_pos h, if_pos (by omega)]; omega
  · rw [if_neg h, if_neg (by omega)]; omega
theorem compute_c (op a b : Int) (w : World) (h : 6 ≤ op ∧ op ≤ 15) (ha : 0 ≤ a ∧ a < 65536) (hb : 0 ≤ b ∧ b < 65536) (hz : op = 9 ∨ op = 10 → b ≠ 0) :
    Calls Tryd.prog 33 #[.int .i64 op, .int .u16 a, .int .u16 b] w fun e w' => e = .returned (.int .u16 (compF op a b)) ∧ w = w' := by
  obtain ⟨a1, a2⟩ := ha
  obtain ⟨b1, b2⟩ := hb
  obtain rfl | rfl | rfl | rfl | rfl | rfl | rfl | rfl | rfl | rfl : op = 6 ∨ op = 7 ∨ op = 8 ∨ op = 9 ∨ op = 10 ∨ op = 11 ∨ op = 12 ∨ op = 13 ∨ op = 14 ∨ op = 15 := by omega
  all_goals clear h
  case inr.inr.inr.inl =>
    have hz' : 1 ≤ b := by omega
    clear hz
    go_enter Tryd.func33, Tryd.ntmps33
    go_wp2
    go_ret
    refine ⟨ret_int ?_, rfl⟩
    have : a.tdiv b = a / b := Int.tdiv_eq_ediv_of_nonneg a1
    rw [this]
    have h1 : 0 ≤ a / b := Int.ediv_nonneg a1 (by omega)
    have h2 : a / b ≤ a := Int.ediv_le_self b a1
    rw [wrap_u16_in h1 (by omega)]
    rfl
  case inr.inr.inr.inr.inl =>
    have hz' : 1 ≤ b := by omega
    clear hz
    go_enter Tryd.func33, Tryd.ntmps33
    go_wp2
    go_ret
    exact ⟨ret_int rfl, rfl⟩
  all_goals clear hz
  case inr.inr.inr.inr.inr.inr.inr.inr.inl =>
    have w1 := wrap_i16_sgn a1 a2
    have w2 := wrap_i16_sgn b1 b2
    go_enter Tryd.func33, Tryd.ntmps33
    go_wp2_with (go_at_call 35; refine (one_c _ _).mono ?_; rintro e w' ⟨rfl, rfl⟩)
    all_goals go_ret
    all_goals refine ⟨ret_int ?_, rfl⟩
    all_goals simp_all [compF]
    all_goals omega
  case inr.inr.inr.inr.inr.inr.inr.inr.inr =>
    go_enter Tryd.func33, Tryd.ntmps33
    go_wp2_with (go_at_call 35; refine (one_c _ _).mono ?_; rintro e w' ⟨rfl, rfl⟩)
    all_goals go_ret
    all_goals refine ⟨ret_int ?_, rfl⟩
    all_goals simp_all [compF]
  all_goals go_enter Tryd.func33, Tryd.ntmps33
  all_goals go_wp2
  all_goals go_ret
  all_goals refine ⟨ret_int ?_, rfl⟩
  all_goals first | (rw [IntKind.wrap_u16]; rfl) | (rw [u16_and a b a1 a2 b1 b2]; rfl) | (rw [u16_or a b a1 a2 b1 b2]; rfl) | (rw [u16_xor a b a1 a2 b1 b2]; rfl)
end Go.Proofs.YtpooedfchjpndaaDoor
