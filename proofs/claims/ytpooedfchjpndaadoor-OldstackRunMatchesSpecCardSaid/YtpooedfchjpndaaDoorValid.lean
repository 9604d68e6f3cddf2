import Derived.Test.YtpooedfchjpndaaDoorClone
import Derived.Test.YtpooedfchjpndaaDoorSt
namespace Go.Proofs.YtpooedfchjpndaaDoor
open Go Go.Proofs Go.RowKit
set_option maxHeartbeats 400000
def fAgg (p : Int × Int) : Value := .agg #[.int .i64 p.1, .int .i64 p.2]
def FRet (w : World) (p : Int × Int) (e : Ending) (w' : World) : Prop := e = .returned (fAgg p) ∧ Ext w w'
theorem FRet.mk {w w' : World} {p q : Int × Int} (h : q = p) (x : Ext w w') : FRet w p (.returned (fAgg q)) w' := ⟨by rw [h], x⟩
def okTo (l : List Int) (k : Nat) : Prop := ∀ i x, i < k → l[i]? = some x → ¬ (x < 0 ∨ 256 < x)
theorem okTo_succ {l : List Int} {k : Nat} (h : okTo l k) {y : Int} (hy : l[k]? = some y) (h2 : ¬ (y < 0 ∨ 256 < y)) : okTo l (k + 1) := by
  intro i x hi hx
  by_cases e : i = k
  · subst e; rw [hx] at hy; cases hy; exact h2
  · exact h i x (by omega) hx
theorem badIdx_some {l : List Int} {k : Nat} (h : okTo l k) {y : Int} (hy : l[k]? = some y) (h2 : y < 0 ∨ 256 < y) : badIdx l = some k := by
  obtain ⟨h1, rfl⟩ := List.getElem?_eq_some_iff.1 hy
  unfold badIdx
  rw [List.findIdx?_eq_some_iff_getElem]
  refine ⟨h1, by simpa using h2, fun j hj => ?_⟩
  have := h j _ hj (List.getElem?_eq_getElem (by omega))
  simpa using this
theorem badIdx_none {l : List Int} {k : Nat} (h : okTo l k) (h1 : l.length ≤ k) : badIdx l = none := by
  unfold badIdx
  rw [List.findIdx?_eq_none_iff]
  intro x hx
  obtain ⟨i, hi, rfl⟩ := List.getElem_of_mem hx
  have := h i _ (by omega) (List.getElem?_eq_getElem hi)
  simpa using this
theorem Valid_c (cs : Array Value) (s : St) (w : World) (h : StIs w cs s) : Calls Tryd.prog 14 #[.agg cs] w (FRet w (faultOf s)) := by
  obtain ⟨A0, c0, e0, l0, m0, -, -⟩ := h.image
  obtain ⟨A5, c5, e5, l5, m5, -, -⟩ := h.input
  obtain ⟨A6, c6, e6, l6, m6, -, -⟩ := h.output
  obtain ⟨A2, c2, e2, l2, m2, -, -⟩ := h.data
  obtain ⟨A3, c3, e3, l3, m3, -, r3⟩ := h.ret
  have e1 := h.at_
  have e7 := h.stop
  unfold maxLen at *
  by_cases h1 : 256 < s.image.length ∨ 1000 < s.input.length ∨ 1000 < s.output.length
  · have hf : (3, -1) = faultOf s := by unfold faultOf; rw [if_pos h1]
    have HF := Lib.hid hf
    clear hf
    go_enter Tryd.func14, Tryd.ntmps14
    go_wp2_with (go_at_call 19; refine (fault_c _ _ _).mono ?_; rintro e w' ⟨rfl, rfl⟩)
    all_goals exact bodyPost_ret (v := fAgg (3, -1)) (by simp [results, Tryd.results14, go_sem, fAgg]) rfl (FRet.mk HF.out (by repeat (first | exact Ext.refl _ | apply Ext.alloc)))
  by_cases h2 : 16 < s.data.length ∨ 8 < s.ret.length
  · have hf : (2, -1) = faultOf s := by unfold faultOf; rw [if_neg h1, if_pos h2]
    have HF := Lib.hid hf
    clear hf
    go_enter Tryd.func14, Tryd.ntmps14
    go_wp2_with (go_at_call 19; refine (fault_c _ _ _).mono ?_; rintro e w' ⟨rfl, rfl⟩)
    all_goals exact bodyPost_ret (v := fAgg (2, -1)) (by simp [results, Tryd.results14, go_sem, fAgg]) rfl (FRet.mk HF.out (by repeat (first | exact Ext.refl _ | apply Ext.alloc)))
  by_cases h3 : s.at_ < 0 ∨ 256 < s.at_ ∨ s.stop < 0 ∨ 7 < s.stop
  · have hf : (4, -1) = faultOf s := by unfold faultOf; rw [if_neg h1, if_neg h2, if_pos h3]
    have HF := Lib.hid hf
    clear hf
    go_enter Tryd.func14, Tryd.ntmps14
    go_wp2_with (go_at_call 19; refine (fault_c _ _ _).mono ?_; rintro e w' ⟨rfl, rfl⟩)
    all_goals exact bodyPost_ret (v := fAgg (4, -1)) (by simp [results, Tryd.results14, go_sem, fAgg]) rfl (FRet.mk HF.out (by repeat (first | exact Ext.refl _ | apply Ext.alloc)))
  · have hf : ∀ k : Nat, okTo s.ret k → (s.ret.length ≤ k → (0, 0) = faultOf s) ∧ (∀ y, s.ret[k]? = some y → (y < 0 ∨ 256 < y) → (4, (k : Int)) = faultOf s) := by
      intro k hk
      unfold faultOf; rw [if_neg h1, if_neg h2, if_neg h3]
      exact ⟨fun h => by rw [badIdx_none hk h], fun y h h' => by rw [badIdx_some hk h h']⟩
    have HF := Lib.hid hf
    clear hf
    go_enter Tryd.func14, Tryd.ntmps14
    go_wp2_with (go_at_call 19; refine (fault_c _ _ _).mono ?_; rintro e w' ⟨rfl, rfl⟩)
    go_loop [58] (fun i => ∃ k : Nat, k ≤ s.ret.length ∧ i = .int .i64 k ∧ okTo s.ret k) (fun i => s.ret.length - (intOf i).toNat)
    case atStart => exact ⟨0, Nat.zero_le _, rfl, fun i x hi => by omega⟩
    case round =>
      obtain ⟨k, hk, rfl, hr⟩ := hrel
      by_cases hlt : k < s.ret.length
      · obtain ⟨b, o, y, rfl, hy, ha⟩ := r3.at2 hlt
        have hblt := World.block_lt_of_cell? w _ ha
        go_wp2_with (go_at_call 19; refine (fault_c _ _ _).mono ?_; rintro e w' ⟨rfl, rfl⟩)
        · exact bodyPost_ret (v := fAgg (4, k)) (by simp [results, Tryd.results14, go_sem, fAgg]) rfl (FRet.mk ((HF.out k hr).2 y hy.out (by omega)) (by repeat (first | exact Ext.refl _ | apply Ext.alloc)))
        · refine ⟨⟨k + 1, by omega, by go_num, okTo_succ hr hy.out (by omega)⟩, by simp [intOf]; omega⟩
        · exact bodyPost_ret (v := fAgg (4, k)) (by simp [results, Tryd.results14, go_sem, fAgg]) rfl (FRet.mk ((HF.out k hr).2 y hy.out (by omega)) (by repeat (first | exact Ext.refl _ | apply Ext.alloc)))
      · go_wp2
        exact bodyPost_ret (v := fAgg (0, 0)) (by simp [results, Tryd.results14, go_sem, fAgg]) rfl (FRet.mk ((HF.out k hr).1 (by omega)) (by repeat (first | exact Ext.refl _ | apply Ext.alloc)))
end Go.Proofs.YtpooedfchjpndaaDoor
