import Derived.Test.YtbhcaniopdgjkaaProg
import Derived.Test.YtbhcaniopdgjkaaBase
import Derived.Deep.QuietTactic
import Derived.BigQuiet
import Derived.KernelRfl
import Derived.Lib.Hide
namespace Go.Proofs.Ytbhcaniopdgjkaa
open Go Go.Proofs Go.RowKit
set_option maxHeartbeats 400000

theorem ret_bool {a b : Bool} (h : a = b) : Ending.returned (.bool a) = .returned (.bool b) := by rw [h]
def eqTo (l m : List Int) (k : Nat) : Prop := l.take k = m.take k
theorem eqTo_succ {l m : List Int} {k : Nat} (h : eqTo l m k) (h1 : k < l.length) (h2 : k < m.length) (he : l[k]?.getD 0 = m[k]?.getD 0) : eqTo l m (k + 1) := by
  rw [List.getElem?_eq_getElem h1, List.getElem?_eq_getElem h2] at he
  simp only [Option.getD_some] at he
  unfold eqTo at *
  rw [List.take_succ_eq_append_getElem h1, List.take_succ_eq_append_getElem h2, h, he]
theorem eqTo_no {l m : List Int} {k : Nat} (he : l[k]?.getD 0 ≠ m[k]?.getD 0) : decide (l = m) = false := by
  rw [decide_eq_false_iff_not]; rintro rfl; exact he rfl
theorem eqTo_all {l m : List Int} {k : Nat} (h : eqTo l m k) (h1 : l.length ≤ k) (h2 : m.length ≤ k) : decide (l = m) = true := by
  unfold eqTo at h
  rw [List.take_of_length_le h1, List.take_of_length_le h2] at h
  simpa using h

theorem Ints_c (A B : Option Addr) (l m : List Int) (c d : Nat) (w : World) (hl : l.length ≤ maxLen) (hm : m.length ≤ maxLen) (h1 : Sl w .i64 A l) (h2 : Sl w .i64 B m) :
    Calls Try.prog 24 #[.slice A l.length c, .slice B m.length d] w fun e w' => e = .returned (.bool (decide (l = m))) ∧ ∃ n, w' = w.drewN n := by
  unfold maxLen at hl hm
  by_cases hn : l.length = m.length
  · obtain ⟨q, hq⟩ : ∃ q, q = l.length := ⟨_, rfl⟩
    rw [← hq] at hl
    rw [← hn, ← hq]
    have HQ := Lib.hid hq
    have HN := Lib.hid hn
    clear hq hn hm
    go_enter Try.func24, Try.ntmps24
    go_wp2
    go_loopw [5] (fun i wr => ∃ k : Nat, ∃ n : Nat, k ≤ q ∧ i = .int .i64 k ∧ eqTo l m k ∧ wr = w.drewN n) (fun i _ => q - (intOf i).toNat)
    case atStart => exact ⟨0, 0, Nat.zero_le _, rfl, rfl, rfl⟩
    case round =>
      obtain ⟨k, n, hk, rfl, hr, rfl⟩ := hrel
      by_cases hlt : k < q
      · have hkl : k < l.length := by rw [← HQ.out]; exact hlt
        have hkm : k < m.length := by rw [← HN.out, ← HQ.out]; exact hlt
        obtain ⟨b, o, rfl, ha⟩ := h1.at_ hkl
        obtain ⟨b', o', rfl, hb⟩ := h2.at_ hkm
        have HK := Lib.hid hkl
        have HM := Lib.hid hkm
        clear hkl hkm
        go_wp2
        go_quiet (fail)
        go_wp2
        · go_ret
          rename_i hne
          exact ⟨ret_bool (eqTo_no (by simpa using hne)).symm, _, World.drewN_drewN _ _ _⟩
        · rename_i hne
          refine ⟨⟨k + 1, _, by omega, by go_num, eqTo_succ hr HK.out HM.out (by simpa using hne), rfl⟩, by simp [intOf]; omega⟩
      · go_wp2
        go_ret
        exact ⟨ret_bool (eqTo_all hr (by rw [← HQ.out]; omega) (by rw [← HN.out, ← HQ.out]; omega)).symm, _, rfl⟩
  · have hd : ((l.length : Int) != (m.length : Int)) = true := by simp; omega
    have HN := Lib.hid hn
    clear hn
    go_enter Try.func24, Try.ntmps24
    go_wp2
    go_ret
    exact ⟨ret_bool (by simp; rintro rfl; exact HN.out rfl), 0, rfl⟩

theorem fault_c (c i : Int) (w : World) :
    Calls Try.prog 47 #[.int .i64 c, .int .i64 i] w fun e w' => e = .returned (.agg #[.int .i64 c, .int .i64 i]) ∧ w.alloc (.cells #[.int .i64 c, .int .i64 i] 25) = w' := by
  go_enter Try.func47, Try.ntmps47
  go_wp2
  exact bodyPost_ret (v := .agg #[.int .i64 c, .int .i64 i]) (by simp [results, Try.results47, go_sem]) rfl ⟨rfl, rfl⟩
theorem At_c (c i : Int) (w : World) :
    Calls Try.prog 20 #[.int .i64 c, .int .i64 i] w fun e w' => e = .returned (.agg #[.int .i64 c, .int .i64 i]) ∧ w.alloc (.cells #[.int .i64 c, .int .i64 i] 25) = w' := by
  go_enter Try.func20, Try.ntmps20
  go_wp2
  exact bodyPost_ret (v := .agg #[.int .i64 c, .int .i64 i]) (by simp [results, Try.results20, go_sem]) rfl ⟨rfl, rfl⟩
def inB (n lo hi : Int) : Bool := decide (lo ≤ n ∧ n ≤ hi)
theorem In_c (n lo hi : Int) (w : World) :
    Calls Try.prog 29 #[.int .i64 n, .int .i64 lo, .int .i64 hi] w fun e w' => e = .returned (.bool (inB n lo hi)) ∧ w = w' := by
  have h1 : ∀ b, inB n lo hi = b → Hid (inB n lo hi = b) := fun _ h => h
  by_cases h2 : lo ≤ n
  all_goals go_enter Try.func29, Try.ntmps29
  all_goals go_wp2
  all_goals go_ret
  all_goals refine ⟨ret_bool ?_, rfl⟩
  all_goals simp [inB]
  all_goals omega
end Go.Proofs.Ytbhcaniopdgjkaa
