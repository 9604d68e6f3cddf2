import Derived.Test.YtbaahbpianingaaDoorProg
import Derived.Test.YtbaahbpianingaaDoorBase
import Derived.Test.YtbaahbpianingaaDoorAccT
import Derived.Test.YtbaahbpianingaaDoorAccQ
import Derived.Test.YtbaahbpianingaaDoorMachA
namespace Go.Proofs.YtbaahbpianingaaDoor
open Go Go.Proofs Go.RowKit
open Acc (Dk red five)
set_option maxHeartbeats 1000000
set_option maxRecDepth 100000
theorem ret_bool {a b : Bool} (h : a = b) : Ending.returned (.bool a) = .returned (.bool b) := by rw [h]
theorem ret_int {k : IntKind} {a b : Int} (h : a = b) : Ending.returned (.int k a) = .returned (.int k b) := by rw [h]
def BRet (w : World) (b : Bool) (e : Ending) (w' : World) : Prop := e = .returned (.bool b) ∧ Ext w w'
theorem fault_c (c i : Int) (w : World) :
    Calls Tryd.prog 40 #[.int .i64 c, .int .i64 i] w fun e w' => e = .returned (.agg #[.int .i64 c, .int .i64 i]) ∧ w.alloc (.cells #[.int .i64 c, .int .i64 i] 28) = w' := by
  go_enter Tryd.func40, Tryd.ntmps40
  go_wp2
  exact bodyPost_ret (v := .agg #[.int .i64 c, .int .i64 i]) (by simp [results, Tryd.results40, go_sem]) rfl ⟨rfl, rfl⟩
theorem At_c (c i : Int) (w : World) :
    Calls Tryd.prog 14 #[.int .i64 c, .int .i64 i] w fun e w' => e = .returned (.agg #[.int .i64 c, .int .i64 i]) ∧ w.alloc (.cells #[.int .i64 c, .int .i64 i] 28) = w' := by
  go_enter Tryd.func14, Tryd.ntmps14
  go_wp2
  exact bodyPost_ret (v := .agg #[.int .i64 c, .int .i64 i]) (by simp [results, Tryd.results14, go_sem]) rfl ⟨rfl, rfl⟩
def inB (n lo hi : Int) : Bool := decide (lo ≤ n ∧ n ≤ hi)
theorem In_c (n lo hi : Int) (w : World) :
    Calls Tryd.prog 22 #[.int .i64 n, .int .i64 lo, .int .i64 hi] w fun e w' => e = .returned (.bool (inB n lo hi)) ∧ w = w' := by
  by_cases h2 : lo ≤ n
  all_goals go_enter Tryd.func22, Tryd.ntmps22
  all_goals go_wp2
  all_goals go_ret
  all_goals refine ⟨ret_bool ?_, rfl⟩
  all_goals simp [inB]
  all_goals omega
theorem five_inB (n : Int) : five n = inB n (-99999) 99999 := rfl
theorem five_c (n : Int) (w : World) : Calls Tryd.prog 42 #[.int .i64 n] w fun e w' => e = .returned (.bool (five n)) ∧ w = w' := by
  go_enter Tryd.func42, Tryd.ntmps42
  go_wp2_with (go_at_call 22; refine (In_c _ _ _ _).mono ?_; rintro e w' ⟨rfl, rfl⟩)
  go_ret
  exact ⟨rfl, rfl⟩
theorem validWord_c (n : Int) (w : World) : Calls Tryd.prog 71 #[.int .i64 n] w fun e w' => e = .returned (.bool (five n)) ∧ w = w' := by
  by_cases h2 : -99999 ≤ n
  all_goals go_enter Tryd.func71, Tryd.ntmps71
  all_goals go_wp2
  all_goals go_ret
  all_goals refine ⟨ret_bool ?_, rfl⟩
  all_goals simp [five]
  all_goals omega
theorem badWord1_c (n : Int) (w : World) : Calls Tryd.prog 70 #[.int .i64 n] w fun e w' => e = .returned (.bool (!five n)) ∧ w = w' := by
  go_enter Tryd.func70, Tryd.ntmps70
  go_wp2_with (go_at_call 71; refine (validWord_c _ _).mono ?_; rintro e w' ⟨rfl, rfl⟩)
  go_ret
  exact ⟨rfl, rfl⟩
/-- The place of the first number that is no word, or -1. -/
def badI (l : List Int) : Int := match l.findIdx? (fun n => !five n) with | some i => (i : Int) | none => -1
def fineTo (l : List Int) (k : Nat) : Prop := ∀ i x, i < k → l[i]? = some x → five x = true
theorem fineTo_succ {l : List Int} {k : Nat} (h : fineTo l k) {y : Int} (hy : l[k]? = some y) (h2 : five y = true) : fineTo l (k + 1) := by
  intro i x hi hx
  by_cases e : i = k
  · subst e; rw [hx] at hy; cases hy; exact h2
  · exact h i x (by omega) hx
theorem badI_some {l : List Int} {k : Nat} (h : fineTo l k) {y : Int} (hy : l[k]? = some y) (h2 : five y = false) : badI l = k := by
  obtain ⟨h1, rfl⟩ := List.getElem?_eq_some_iff.1 hy
  unfold badI
  have : l.findIdx? (fun n => !five n) = some k := by
    rw [List.findIdx?_eq_some_iff_getElem]
    refine ⟨h1, by simpa using h2, fun j hj => ?_⟩
    have := h j _ hj (List.getElem?_eq_getElem (by omega))
    simpa using this
  rw [this]
theorem badI_none {l : List Int} {k : Nat} (h : fineTo l k) (h1 : l.length ≤ k) : badI l = -1 := by
  unfold badI
  have : l.findIdx? (fun n => !five n) = none := by
    rw [List.findIdx?_eq_none_iff]
    intro x hx
    obtain ⟨i, hi, rfl⟩ := List.getElem_of_mem hx
    have := h i _ (by omega) (List.getElem?_eq_getElem hi)
    simpa using this
  rw [this]
theorem badI_fine {l : List Int} (h : badI l < 0) : ∀ x ∈ l, five x = true := by
  unfold badI at h
  cases hf : l.findIdx? (fun n => !five n) with
  | some i => rw [hf] at h; simp at h; omega
  | none =>
    intro x hx
    have := List.findIdx?_eq_none_iff.1 hf x hx
    simpa using this
theorem badI_all {l : List Int} (h : ∀ x ∈ l, five x = true) : badI l = -1 := badI_none (k := l.length) (fun _ x _ hx => h x (List.mem_of_getElem? hx)) (Nat.le_refl _)
theorem badI_lt (l : List Int) : -1 ≤ badI l ∧ badI l < (l.length : Int) ∨ badI l = -1 := by
  unfold badI
  cases hf : l.findIdx? (fun n => !five n) with
  | some i =>
    have := (List.findIdx?_eq_some_iff_getElem.1 hf).1
    left; simp only; omega
  | none => right; rfl
theorem IndexFunc_c (A : Option Addr) (l : List Int) (c : Nat) (w : World) (hl : l.length ≤ maxLen) (h1 : Sl w .i64 A l) :
    Calls Tryd.prog 66 #[.slice A l.length c, .func (.func 70) #[] #[]] w fun e w' => e = .returned (.int .i64 (badI l)) ∧ w = w' := by
  unfold maxLen at hl
  obtain ⟨q, hq⟩ : ∃ q, q = l.length := ⟨_, rfl⟩
  rw [← hq] at hl ⊢
  have HQ := Lib.hid hq
  clear hq
  go_enter Tryd.func66, Tryd.ntmps66
  go_wp2
  go_loop [8] (fun i => ∃ k : Nat, k ≤ q ∧ i = .int .i64 k ∧ fineTo l k) (fun i => q - (intOf i).toNat)
  case atStart => exact ⟨0, Nat.zero_le _, rfl, fun i x hi => by omega⟩
  case round =>
    obtain ⟨k, hk, rfl, hr⟩ := hrel
    have HR := Lib.hid hr
    clear hr
    by_cases hlt : k < q
    · have hkl : k < l.length := by rw [← HQ.out]; exact hlt
      obtain ⟨b, o, x, rfl, hx, ha⟩ := h1.at2 hkl
      clear hkl
      cases hb : five x with
      | false =>
        have HF := Lib.hid (badI_some HR.out hx.out hb)
        go_wp2_with (go_at_call 70; refine (badWord1_c _ _).mono ?_; rintro e w' ⟨rfl, rfl⟩; rw [hb])
        go_ret
        exact ⟨ret_int HF.out.symm, rfl⟩
      | true =>
        go_wp2_with (go_at_call 70; refine (badWord1_c _ _).mono ?_; rintro e w' ⟨rfl, rfl⟩; rw [hb])
        go_round
        case rel => exact ⟨k + 1, by omega, by go_num, fineTo_succ HR.out hx.out hb⟩
        case measure => simp [intOf]; omega
    · have HF := Lib.hid (badI_none HR.out (by rw [← HQ.out]; omega))
      go_wp2
      go_ret
      exact ⟨ret_int HF.out.symm, rfl⟩
theorem badWord_c (A : Option Addr) (l : List Int) (c : Nat) (w : World) (hl : l.length ≤ maxLen) (h1 : Sl w .i64 A l) :
    Calls Tryd.prog 45 #[.slice A l.length c] w fun e w' => e = .returned (.int .i64 (badI l)) ∧ w = w' := by
  have HI := Lib.hid (IndexFunc_c A l c w hl h1)
  clear h1
  go_enter Tryd.func45, Tryd.ntmps45
  go_wp2_with (go_at_call 66; refine HI.out.mono ?_; rintro e w' ⟨rfl, rfl⟩)
  go_ret
  exact ⟨rfl, rfl⟩
theorem red_wrap (n : Int) : IntKind.i64.wrap (n.tmod 100000) = red n := by
  have := Acc.five_iff.1 (Acc.red_five n)
  unfold red at *
  exact IntWalk.i64_in _ (by omega)
theorem reduce_c (n : Int) (w : World) : Calls Tryd.prog 100 #[.int .i64 n] w fun e w' => e = .returned (.int .i64 (red n)) ∧ w = w' := by
  have hw := red_wrap n
  go_enter Tryd.func100, Tryd.ntmps100
  go_wp2
  go_ret
  exact ⟨by rfl, rfl⟩
end Go.Proofs.YtbaahbpianingaaDoor
