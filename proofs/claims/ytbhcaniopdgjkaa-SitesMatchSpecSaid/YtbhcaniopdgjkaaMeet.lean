import Derived.Test.YtbhcaniopdgjkaaRiseR
namespace Go.Proofs.Ytbhcaniopdgjkaa
open Go Go.Proofs Go.RowKit
set_option maxHeartbeats 800000
/-- A place, or a number below zero. -/
def IdxRet (b : Bool) (w : World) (e : Ending) (w' : World) : Prop := ∃ r : Int, e = .returned (.int .i64 r) ∧ decide (0 ≤ r) = b ∧ w = w'
theorem Index_c (A : Option Addr) (l : List Int) (c : Nat) (n : Int) (w : World) (hl : l.length ≤ maxLen) (h1 : Sl w .i64 A l) :
    Calls Try.prog 93 #[.slice A l.length c, .int .i64 n] w (IdxRet (hasB l n) w) := by
  unfold maxLen at hl
  obtain ⟨q, hq⟩ : ∃ q, q = l.length := ⟨_, rfl⟩
  rw [← hq] at hl ⊢
  have HQ := Lib.hid hq
  clear hq
  go_enter Try.func93, Try.ntmps93
  go_wp2
  go_loop [8] (fun i => ∃ k : Nat, k ≤ q ∧ i = .int .i64 k ∧ n ∉ l.take k) (fun i => q - (intOf i).toNat)
  case atStart => exact ⟨0, Nat.zero_le _, rfl, by simp⟩
  case round =>
    obtain ⟨k, hk, rfl, hr⟩ := hrel
    have HR := Lib.hid hr
    clear hr
    by_cases hlt : k < q
    · have hkl : k < l.length := by rw [← HQ.out]; exact hlt
      obtain ⟨b, o, x, rfl, hx, ha⟩ := h1.at2 hkl
      clear hkl
      by_cases hne : x = n
      · have HC : Hid (hasB l n = true) := by
          show l.contains n = true
          rw [List.contains_iff_mem, ← hne]; exact List.mem_of_getElem? hx.out
        subst hne
        go_wp2
        go_ret
        exact ⟨k, rfl, by rw [HC.out]; simp, rfl⟩
      · have hb : (n == x) = false := by simpa using fun e => hne e.symm
        go_wp2
        go_round
        case rel => exact ⟨k + 1, by omega, by go_num, take_has HR.out hx.out hne⟩
        case measure => simp [intOf]; omega
    · have HC : Hid (hasB l n = false) := by
        show l.contains n = false
        have := HR.out
        rw [List.take_of_length_le (by rw [← HQ.out]; omega)] at this
        simpa using this
      go_wp2
      go_ret
      exact ⟨-1, rfl, by rw [HC.out]; rfl, rfl⟩
theorem Contains_c (A : Option Addr) (l : List Int) (c : Nat) (n : Int) (w : World) (hl : l.length ≤ maxLen) (h1 : Sl w .i64 A l) :
    Calls Try.prog 79 #[.slice A l.length c, .int .i64 n] w fun e w' => e = .returned (.bool (hasB l n)) ∧ w = w' := by
  have HC := Lib.hid (Index_c A l c n w hl h1)
  go_enter Try.func79, Try.ntmps79
  go_wp2_with (go_at_call 93; refine HC.out.mono ?_; rintro e w' ⟨r, rfl, hr, rfl⟩)
  go_ret
  exact ⟨rfl, rfl⟩
theorem meet1_c (x : Int) (B : Nat) (D : Option Addr) (m : List Int) (d : Nat) (w : World) (hm : m.length ≤ maxLen) (h2 : Sl w .i64 D m) (hc : w.cell? ⟨B, 0, none⟩ = some (.slice D m.length d)) :
    Calls Try.prog 84 #[.int .i64 x, .pointer (some ⟨B, 0, none⟩)] w fun e w' => e = .returned (.bool (hasB m x)) ∧ w = w' := by
  have HC := Lib.hid (Contains_c D m d x w hm h2)
  go_enter Try.func84, Try.ntmps84
  go_wp2_with (go_at_call 79; refine HC.out.mono ?_; rintro e w' ⟨rfl, rfl⟩)
  go_ret
  exact ⟨rfl, rfl⟩
theorem IndexFunc_c (A : Option Addr) (l : List Int) (c : Nat) (B : Nat) (p : Int → Bool) (w : World) (hl : l.length ≤ maxLen) (h1 : Sl w .i64 A l)
    (hp : ∀ x, Calls Try.prog 84 #[.int .i64 x, .pointer (some ⟨B, 0, none⟩)] w fun e w' => e = .returned (.bool (p x)) ∧ w = w') :
    Calls Try.prog 92 #[.slice A l.length c, .func (.func 84) #[] #[.pointer (some ⟨B, 0, none⟩)]] w (IdxRet (l.any p) w) := by
  unfold maxLen at hl
  obtain ⟨q, hq⟩ : ∃ q, q = l.length := ⟨_, rfl⟩
  rw [← hq] at hl ⊢
  have HQ := Lib.hid hq
  have HP := Lib.hid hp
  obtain ⟨r, hr⟩ : ∃ r, l.any p = r := ⟨_, rfl⟩
  rw [hr]
  have HRR := Lib.hid hr
  clear hq hp hr
  go_enter Try.func92, Try.ntmps92
  go_wp2
  go_loop [8] (fun i => ∃ k : Nat, k ≤ q ∧ i = .int .i64 k ∧ noneTo p l k) (fun i => q - (intOf i).toNat)
  case atStart => exact ⟨0, Nat.zero_le _, rfl, by simp [noneTo]⟩
  case round =>
    obtain ⟨k, hk, rfl, hr⟩ := hrel
    have HR := Lib.hid hr
    clear hr
    by_cases hlt : k < q
    · have hkl : k < l.length := by rw [← HQ.out]; exact hlt
      obtain ⟨b, o, x, rfl, hx, ha⟩ := h1.at2 hkl
      clear hkl
      cases hb : p x with
      | true =>
        have HC := Lib.hid ((any_here hx.out hb).symm.trans HRR.out)
        go_wp2_with (go_at_call 84; refine (HP.out _).mono ?_; rintro e w' ⟨rfl, rfl⟩)
        go_ret
        exact ⟨k, rfl, by rw [← HC.out]; simp, rfl⟩
      | false =>
        go_wp2_with (go_at_call 84; refine (HP.out _).mono ?_; rintro e w' ⟨rfl, rfl⟩)
        go_round
        case rel => exact ⟨k + 1, by omega, by go_num, any_take HR.out hx.out hb⟩
        case measure => simp [intOf]; omega
    · have HC := Lib.hid ((any_full HR.out (by rw [← HQ.out]; omega)).symm.trans HRR.out)
      go_wp2
      go_ret
      exact ⟨-1, rfl, by rw [← HC.out]; rfl, rfl⟩
end Go.Proofs.Ytbhcaniopdgjkaa
