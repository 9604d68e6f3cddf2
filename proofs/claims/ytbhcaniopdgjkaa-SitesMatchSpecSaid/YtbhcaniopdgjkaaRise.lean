import Derived.Test.YtbhcaniopdgjkaaHas
import Derived.Test.YtbhcaniopdgjkaaSitesM
namespace Go.Proofs.Ytbhcaniopdgjkaa
open Go Go.Proofs Go.RowKit
set_option maxHeartbeats 800000
theorem ret_int {k : IntKind} {a b : Int} (h : a = b) : Ending.returned (.int k a) = .returned (.int k b) := by rw [h]
/-- What is still to be looked at decides. -/
def riseTo (l : List Int) (n : Int) (k : Nat) : Prop := Plain.risingC l n = Plain.risingGo n (if k = 0 then none else l[k - 1]?) (l.drop k)
theorem rise0 (l : List Int) (n : Int) : riseTo l n 0 := rfl
theorem rise_end {l : List Int} {n : Int} {k : Nat} (h : riseTo l n k) (hk : l.length ≤ k) : 0 = Plain.risingC l n := by
  rw [h, List.drop_of_length_le hk]; rfl
theorem rise_range {l : List Int} {n x : Int} {k : Nat} (h : riseTo l n k) (hx : l[k]? = some x) (hb : x < 0 ∨ n ≤ x) : 4 = Plain.risingC l n := by
  obtain ⟨h1, rfl⟩ := List.getElem?_eq_some_iff.1 hx
  rw [h, List.drop_eq_getElem_cons h1, Plain.risingGo, if_pos hb]
theorem rise_order {l : List Int} {n x y : Int} {k : Nat} (h : riseTo l n k) (hx : l[k]? = some x) (hb : ¬ (x < 0 ∨ n ≤ x)) (hk : 0 < k) (hy : l[k - 1]? = some y) (hxy : x ≤ y) : 11 = Plain.risingC l n := by
  obtain ⟨h1, rfl⟩ := List.getElem?_eq_some_iff.1 hx
  have e : (if k = 0 then none else l[k - 1]?) = some y := by rw [if_neg (by omega), hy]
  rw [h, List.drop_eq_getElem_cons h1, e, Plain.risingGo, if_neg hb, if_pos (by simpa using hxy)]
theorem rise_next {l : List Int} {n x : Int} {k : Nat} (h : riseTo l n k) (hx : l[k]? = some x) (hb : ¬ (x < 0 ∨ n ≤ x)) (ho : k = 0 ∨ ∃ y, l[k - 1]? = some y ∧ ¬ x ≤ y) : riseTo l n (k + 1) := by
  unfold riseTo
  obtain ⟨h1, rfl⟩ := List.getElem?_eq_some_iff.1 hx
  rw [h, List.drop_eq_getElem_cons h1, Plain.risingGo, if_neg hb, if_neg, if_neg (by omega), Nat.add_sub_cancel, List.getElem?_eq_getElem h1]
  rcases ho with rfl | ⟨y, hy, hxy⟩
  · simp
  · by_cases h0 : k = 0
    · simp [h0]
    · rw [if_neg h0, hy]; simpa using hxy
theorem Rising_c (A : Option Addr) (l : List Int) (c : Nat) (n : Int) (w : World) (hl : l.length ≤ maxLen) (h1 : Sl w .i64 A l) :
    Calls Try.prog 46 #[.slice A l.length c, .int .i64 n] w fun e w' => e = .returned (.int .i64 (Plain.risingC l n)) ∧ w = w' := by
  unfold maxLen at hl
  obtain ⟨q, hq⟩ : ∃ q, q = l.length := ⟨_, rfl⟩
  rw [← hq] at hl ⊢
  have HQ := Lib.hid hq
  clear hq
  obtain ⟨r, hr⟩ : ∃ r, Plain.risingC l n = r := ⟨_, rfl⟩
  rw [hr]
  have HRR := Lib.hid hr
  clear hr
  go_enter Try.func46, Try.ntmps46
  go_wp2
  go_loop [9] (fun i => ∃ k : Nat, k ≤ q ∧ i = .int .i64 k ∧ riseTo l n k) (fun i => q - (intOf i).toNat)
  case atStart => exact ⟨0, Nat.zero_le _, rfl, rise0 l n⟩
  case round =>
    obtain ⟨k, hk, rfl, hr⟩ := hrel
    have HR := Lib.hid hr
    clear hr
    by_cases hlt : k < q
    · have hkl : k < l.length := by rw [← HQ.out]; exact hlt
      obtain ⟨b, o, x, rfl, hx, ha⟩ := h1.at2 hkl
      by_cases hb : x < 0 ∨ n ≤ x
      · have HC := Lib.hid ((rise_range HR.out hx.out hb).trans HRR.out)
        clear hkl
        rcases hb with hb | hb
        · go_wp2
          go_ret
          exact ⟨ret_int HC.out, rfl⟩
        · by_cases hb0 : x < 0
          · go_wp2
            go_ret
            exact ⟨ret_int HC.out, rfl⟩
          · go_wp2
            go_ret
            exact ⟨ret_int HC.out, rfl⟩
      · have hb1 : ¬ x < 0 := by omega
        have hb2 : ¬ n ≤ x := by omega
        by_cases h0 : k = 0
        · have HN := Lib.hid (rise_next HR.out hx.out hb (.inl h0))
          have e4 : decide ((0 : Int) < (k : Int)) = false := by simp; omega
          have e5 : ¬ 0 < k := by omega
          clear hkl hb h0
          go_wp2
          go_round
          case rel => exact ⟨k + 1, by omega, by go_num, HN.out⟩
          case measure => simp [intOf]; omega
        · obtain ⟨b', o', y, hA, hy, hay⟩ := h1.at2 (show k - 1 < l.length by omega)
          cases hA
          have e1 : ((k : Int) - 1).toNat = k - 1 := by omega
          have e2 : 0 ≤ (k : Int) - 1 := by omega
          have e3 : (k : Int) - 1 < q := by omega
          have e4 : decide ((0 : Int) < (k : Int)) = true := by simp; omega
          have e5 : 0 < k := by omega
          by_cases hxy : x ≤ y
          · have HC := Lib.hid ((rise_order HR.out hx.out hb (by omega) hy.out hxy).trans HRR.out)
            clear hkl hb h0
            go_wp2
            go_ret
            exact ⟨ret_int HC.out, rfl⟩
          · have HN := Lib.hid (rise_next HR.out hx.out hb (.inr ⟨y, hy.out, hxy⟩))
            clear hkl hb h0
            go_wp2
            go_round
            case rel => exact ⟨k + 1, by omega, by go_num, HN.out⟩
            case measure => simp [intOf]; omega
    · have HC := Lib.hid ((rise_end HR.out (by rw [← HQ.out]; omega)).trans HRR.out)
      go_wp2
      go_ret
      exact ⟨ret_int HC.out, rfl⟩
end Go.Proofs.Ytbhcaniopdgjkaa
