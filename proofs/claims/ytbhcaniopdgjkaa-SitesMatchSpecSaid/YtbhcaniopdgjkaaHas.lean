import Derived.Test.YtbhcaniopdgjkaaLeaf
namespace Go.Proofs.Ytbhcaniopdgjkaa
open Go Go.Proofs Go.RowKit
set_option maxHeartbeats 800000
def hasB (l : List Int) (n : Int) : Bool := l.contains n
theorem take_has {l : List Int} {n x : Int} {k : Nat} (h : n ∉ l.take k) (hx : l[k]? = some x) (hn : x ≠ n) : n ∉ l.take (k + 1) := by
  obtain ⟨h1, rfl⟩ := List.getElem?_eq_some_iff.1 hx
  rw [List.take_succ_eq_append_getElem h1]
  intro hm
  rcases List.mem_append.1 hm with hm | hm
  · exact h hm
  · exact hn (List.mem_singleton.1 hm).symm
theorem Has_c (A : Option Addr) (l : List Int) (c : Nat) (n : Int) (w : World) (hl : l.length ≤ maxLen) (h1 : Sl w .i64 A l) :
    Calls Try.prog 34 #[.slice A l.length c, .int .i64 n] w fun e w' => e = .returned (.bool (hasB l n)) ∧ w = w' := by
  unfold maxLen at hl
  obtain ⟨q, hq⟩ : ∃ q, q = l.length := ⟨_, rfl⟩
  rw [← hq] at hl ⊢
  have HQ := Lib.hid hq
  clear hq
  go_enter Try.func34, Try.ntmps34
  go_wp2
  go_loop [5] (fun i => ∃ k : Nat, k ≤ q ∧ i = .int .i64 k ∧ n ∉ l.take k) (fun i => q - (intOf i).toNat)
  case atStart => exact ⟨0, Nat.zero_le _, rfl, by simp⟩
  case round =>
    obtain ⟨k, hk, rfl, hr⟩ := hrel
    have HR := Lib.hid hr
    clear hr
    by_cases hlt : k < q
    · have hkl : k < l.length := by rw [← HQ.out]; exact hlt
      obtain ⟨b, o, x, rfl, hx, ha⟩ := h1.at2 hkl
      clear hkl
      by_cases hne : x = n
      · have HC : Hid (hasB l n = true) := by
          show l.contains n = true
          rw [List.contains_iff_mem, ← hne]; exact List.mem_of_getElem? hx.out
        subst hne
        go_wp2
        go_ret
        exact ⟨ret_bool HC.out.symm, rfl⟩
      · have hb : (x == n) = false := by simpa using hne
        go_wp2
        go_round
        case rel => exact ⟨k + 1, by omega, by go_num, take_has HR.out hx.out hne⟩
        case measure => simp [intOf]; omega
    · have HC : Hid (hasB l n = false) := by
        show l.contains n = false
        have := HR.out
        rw [List.take_of_length_le (by rw [← HQ.out]; omega)] at this
        simpa using this
      go_wp2
      go_ret
      exact ⟨ret_bool HC.out.symm, rfl⟩
theorem any_take {p : Int → Bool} {l : List Int} {x : Int} {k : Nat} (h : (l.take k).any p = false) (hx : l[k]? = some x) (hn : p x = false) : (l.take (k + 1)).any p = false := by
  obtain ⟨h1, rfl⟩ := List.getElem?_eq_some_iff.1 hx
  rw [List.take_succ_eq_append_getElem h1, List.any_append, h]
  simp [hn]
theorem any_full {p : Int → Bool} {l : List Int} {k : Nat} (h : (l.take k).any p = false) (hk : l.length ≤ k) : l.any p = false := by
  rw [List.take_of_length_le hk] at h; exact h
theorem any_here {p : Int → Bool} {l : List Int} {x : Int} {k : Nat} (hx : l[k]? = some x) (hn : p x = true) : l.any p = true := List.any_eq_true.2 ⟨x, List.mem_of_getElem? hx, hn⟩
/-- Two lists meet. -/
def meetsB (a b : List Int) : Bool := a.any fun x => hasB b x
def noneTo (p : Int → Bool) (l : List Int) (k : Nat) : Prop := (l.take k).any p = false
theorem meets_c (A B : Option Addr) (l m : List Int) (c d : Nat) (w : World) (hl : l.length ≤ maxLen) (hm : m.length ≤ maxLen) (h1 : Sl w .i64 A l) (h2 : Sl w .i64 B m) :
    Calls Try.prog 58 #[.slice A l.length c, .slice B m.length d] w fun e w' => e = .returned (.bool (meetsB l m)) ∧ w = w' := by
  have HM := Lib.hid (fun n => Has_c B m d n w hm h2)
  unfold maxLen at hl
  obtain ⟨q, hq⟩ : ∃ q, q = l.length := ⟨_, rfl⟩
  rw [← hq] at hl ⊢
  have HQ := Lib.hid hq
  clear hq hm h2
  go_enter Try.func58, Try.ntmps58
  go_wp2
  go_loop [5] (fun i => ∃ k : Nat, k ≤ q ∧ i = .int .i64 k ∧ noneTo (fun x => hasB m x) l k) (fun i => q - (intOf i).toNat)
  case atStart => exact ⟨0, Nat.zero_le _, rfl, by simp [noneTo]⟩
  case round =>
    obtain ⟨k, hk, rfl, hr⟩ := hrel
    have HR := Lib.hid hr
    clear hr
    by_cases hlt : k < q
    · have hkl : k < l.length := by rw [← HQ.out]; exact hlt
      obtain ⟨b, o, x, rfl, hx, ha⟩ := h1.at2 hkl
      clear hkl
      cases hb : hasB m x with
      | true =>
        have HC : Hid (meetsB l m = true) := any_here hx.out hb
        go_wp2_with (go_at_call 34; refine (HM.out _).mono ?_; rintro e w' ⟨rfl, rfl⟩)
        go_ret
        exact ⟨ret_bool HC.out.symm, rfl⟩
      | false =>
        go_wp2_with (go_at_call 34; refine (HM.out _).mono ?_; rintro e w' ⟨rfl, rfl⟩)
        go_round
        case rel => exact ⟨k + 1, by omega, by go_num, any_take HR.out hx.out hb⟩
        case measure => simp [intOf]; omega
    · have HC : Hid (meetsB l m = false) := any_full HR.out (by rw [← HQ.out]; omega)
      go_wp2
      go_ret
      exact ⟨ret_bool HC.out.symm, rfl⟩
end Go.Proofs.Ytbhcaniopdgjkaa
