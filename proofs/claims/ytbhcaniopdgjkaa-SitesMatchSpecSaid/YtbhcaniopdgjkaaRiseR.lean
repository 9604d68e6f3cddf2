import Derived.Test.YtbhcaniopdgjkaaRise
namespace Go.Proofs.Ytbhcaniopdgjkaa
open Go Go.Proofs Go.RowKit
set_option maxHeartbeats 800000
theorem inB_true {n lo hi : Int} (h1 : lo ≤ n) (h2 : n ≤ hi) : inB n lo hi = true := by unfold inB; simp; omega
theorem inB_false {n lo hi : Int} (h : ¬ (lo ≤ n ∧ n ≤ hi)) : inB n lo hi = false := by unfold inB; simp; omega
theorem RisingCode_c (A : Option Addr) (l : List Int) (c : Nat) (n : Int) (w : World) (hl : l.length ≤ maxLen) (hn : -1000000 ≤ n ∧ n ≤ 9223372036854775807) (h1 : Sl w .i64 A l) :
    Calls Try.prog 19 #[.slice A l.length c, .int .i64 n] w fun e w' => e = .returned (.int .i64 (Plain.risingC l n)) ∧ ∃ m, w' = w.drewN m := by
  unfold maxLen at hl
  obtain ⟨n0, n1⟩ := hn
  obtain ⟨q, hq⟩ : ∃ q, q = l.length := ⟨_, rfl⟩
  rw [← hq] at hl ⊢
  have HQ := Lib.hid hq
  clear hq
  obtain ⟨r, hr⟩ : ∃ r, Plain.risingC l n = r := ⟨_, rfl⟩
  rw [hr]
  have HRR := Lib.hid hr
  clear hr
  go_enter Try.func19, Try.ntmps19
  go_wp2
  go_loopw [5] (fun i wr => ∃ k m : Nat, k ≤ q ∧ i = .int .i64 k ∧ riseTo l n k ∧ wr = w.drewN m) (fun i _ => q - (intOf i).toNat)
  case atStart => exact ⟨0, 0, Nat.zero_le _, rfl, rise0 l n, rfl⟩
  case round =>
    obtain ⟨k, m, hk, rfl, hr, rfl⟩ := hrel
    have HR := Lib.hid hr
    clear hr
    by_cases hlt : k < q
    · have hkl : k < l.length := by rw [← HQ.out]; exact hlt
      obtain ⟨b, o, x, rfl, hx, ha⟩ := h1.at2 hkl
      by_cases hb : x < 0 ∨ n ≤ x
      · have HC := Lib.hid ((rise_range HR.out hx.out hb).trans HRR.out)
        have hin : inB x 0 (n - 1) = false := inB_false (by omega)
        clear hkl hb
        go_wp2_with (go_at_call 29; refine (In_c _ _ _ _).mono ?_; rintro e w' ⟨rfl, rfl⟩)
        go_ret
        exact ⟨ret_int HC.out, _, rfl⟩
      · have hin : inB x 0 (n - 1) = true := inB_true (by omega) (by omega)
        by_cases h0 : k = 0
        · have HN := Lib.hid (rise_next HR.out hx.out hb (.inl h0))
          have e4 : decide ((0 : Int) < (k : Int)) = false := by simp; omega
          have e5 : ¬ 0 < k := by omega
          have e6 : decide (0 < k) = false := by simp; omega
          clear hkl hb h0
          go_wp2_with (go_at_call 29; refine (In_c _ _ _ _).mono ?_; rintro e w' ⟨rfl, rfl⟩)
          go_quiet (fail)
          go_wp2
          refine ⟨⟨k + 1, _, by omega, by go_num, HN.out, rfl⟩, by simp [intOf]; omega⟩
        · obtain ⟨b', o', y, hA, hy, hay⟩ := h1.at2 (show k - 1 < l.length by omega)
          cases hA
          have e1 : ((k : Int) - 1).toNat = k - 1 := by omega
          have e2 : 0 ≤ (k : Int) - 1 := by omega
          have e3 : (k : Int) - 1 < q := by omega
          have e4 : decide ((0 : Int) < (k : Int)) = true := by simp; omega
          have e5 : 0 < k := by omega
          have e6 : decide (0 < k) = true := by simp; omega
          have e7 : IntKind.i64.wrap ((k : Int) - 1) = (k : Int) - 1 := IntWalk.i64_in _ (by omega)
          by_cases hxy : x ≤ y
          · have HC := Lib.hid ((rise_order HR.out hx.out hb (by omega) hy.out hxy).trans HRR.out)
            have e8 : decide (x ≤ y) = true := by simpa using hxy
            clear hkl hb h0
            go_wp2_with (go_at_call 29; refine (In_c _ _ _ _).mono ?_; rintro e w' ⟨rfl, rfl⟩)
            go_quiet (fail)
            go_wp2
            go_ret
            exact ⟨ret_int HC.out, _, World.drewN_drewN _ _ _⟩
          · have HN := Lib.hid (rise_next HR.out hx.out hb (.inr ⟨y, hy.out, hxy⟩))
            have e8 : decide (x ≤ y) = false := by simpa using hxy
            clear hkl hb h0
            go_wp2_with (go_at_call 29; refine (In_c _ _ _ _).mono ?_; rintro e w' ⟨rfl, rfl⟩)
            go_quiet (fail)
            clear e1 e7
            go_wp2
            refine ⟨⟨k + 1, _, by omega, by go_num, HN.out, rfl⟩, by simp [intOf]; omega⟩
    · have HC := Lib.hid ((rise_end HR.out (by rw [← HQ.out]; omega)).trans HRR.out)
      go_wp2
      go_ret
      exact ⟨ret_int HC.out, _, rfl⟩
end Go.Proofs.Ytbhcaniopdgjkaa
