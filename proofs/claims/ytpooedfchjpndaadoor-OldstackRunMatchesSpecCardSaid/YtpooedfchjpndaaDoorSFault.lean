import Derived.Test.YtpooedfchjpndaaDoorValid
namespace Go.Proofs.YtpooedfchjpndaaDoor
open Go Go.Proofs Go.RowKit
set_option maxHeartbeats 800000
theorem inB_true {n lo hi : Int} (h1 : lo ≤ n) (h2 : n ≤ hi) : inB n lo hi = true := by unfold inB; simp; omega
theorem inB_false {n lo hi : Int} (h : ¬ (lo ≤ n ∧ n ≤ hi)) : inB n lo hi = false := by unfold inB; simp; omega
theorem SFault_c (cs : Array Value) (s : St) (w : World) (h : StIs w cs s) : Calls Tryd.prog 12 #[.agg cs] w (FRet w (faultOf s)) := by
  obtain ⟨A0, c0, e0, l0, m0, -, -⟩ := h.image
  obtain ⟨A5, c5, e5, l5, m5, -, -⟩ := h.input
  obtain ⟨A6, c6, e6, l6, m6, -, -⟩ := h.output
  obtain ⟨A2, c2, e2, l2, m2, -, -⟩ := h.data
  obtain ⟨A3, c3, e3, l3, m3, -, r3⟩ := h.ret
  have e1 := h.at_
  have e7 := h.stop
  unfold maxLen at *
  by_cases h1 : 256 < s.image.length ∨ 1000 < s.input.length ∨ 1000 < s.output.length
  · have hf : (3, -1) = faultOf s := by unfold faultOf; rw [if_pos h1]
    have HF := Lib.hid hf
    clear hf
    go_enter Tryd.func12, Tryd.ntmps12
    go_wp2_with (go_at_call 8; refine (At_c _ _ _).mono ?_; rintro e w' ⟨rfl, rfl⟩)
    all_goals exact bodyPost_ret (v := fAgg (3, -1)) (by simp [results, Tryd.results12, go_sem, fAgg]) rfl (FRet.mk HF.out (by repeat (first | exact Ext.refl _ | apply Ext.alloc)))
  by_cases h2 : 16 < s.data.length ∨ 8 < s.ret.length
  · have hf : (2, -1) = faultOf s := by unfold faultOf; rw [if_neg h1, if_pos h2]
    have HF := Lib.hid hf
    clear hf
    go_enter Tryd.func12, Tryd.ntmps12
    go_wp2_with (go_at_call 8; refine (At_c _ _ _).mono ?_; rintro e w' ⟨rfl, rfl⟩)
    all_goals exact bodyPost_ret (v := fAgg (2, -1)) (by simp [results, Tryd.results12, go_sem, fAgg]) rfl (FRet.mk HF.out (by repeat (first | exact Ext.refl _ | apply Ext.alloc)))
  by_cases h3 : s.at_ < 0 ∨ 256 < s.at_
  · have hf : (4, -1) = faultOf s := by unfold faultOf; rw [if_neg h1, if_neg h2, if_pos (by omega)]
    have HF := Lib.hid hf
    have hb : inB s.at_ 0 256 = false := inB_false (by omega)
    clear hf
    go_enter Tryd.func12, Tryd.ntmps12
    go_wp2_with (first | (go_at_call 8; refine (At_c _ _ _).mono ?_; rintro e w' ⟨rfl, rfl⟩) | (go_at_call 16; refine (In_c _ _ _ _).mono ?_; rintro e w' ⟨rfl, rfl⟩))
    all_goals exact bodyPost_ret (v := fAgg (4, -1)) (by simp [results, Tryd.results12, go_sem, fAgg]) rfl (FRet.mk HF.out (by repeat (first | exact Ext.refl _ | apply Ext.alloc)))
  have hb : inB s.at_ 0 256 = true := inB_true (by omega) (by omega)
  by_cases h4 : s.stop < 0 ∨ 7 < s.stop
  · have hf : (4, -1) = faultOf s := by unfold faultOf; rw [if_neg h1, if_neg h2, if_pos (by omega)]
    have HF := Lib.hid hf
    have hb2 : inB s.stop 0 7 = false := inB_false (by omega)
    clear hf
    go_enter Tryd.func12, Tryd.ntmps12
    go_wp2_with (first | (go_at_call 8; refine (At_c _ _ _).mono ?_; rintro e w' ⟨rfl, rfl⟩) | (go_at_call 16; refine (In_c _ _ _ _).mono ?_; rintro e w' ⟨rfl, rfl⟩))
    all_goals exact bodyPost_ret (v := fAgg (4, -1)) (by simp [results, Tryd.results12, go_sem, fAgg]) rfl (FRet.mk HF.out (by repeat (first | exact Ext.refl _ | apply Ext.alloc)))
  · have hb2 : inB s.stop 0 7 = true := inB_true (by omega) (by omega)
    have hf : ∀ k : Nat, okTo s.ret k → (s.ret.length ≤ k → (0, 0) = faultOf s) ∧ (∀ y, s.ret[k]? = some y → (y < 0 ∨ 256 < y) → (4, (k : Int)) = faultOf s) := by
      intro k hk
      unfold faultOf; rw [if_neg h1, if_neg h2, if_neg (by omega)]
      exact ⟨fun h => by rw [badIdx_none hk h], fun y h h' => by rw [badIdx_some hk h h']⟩
    have HF := Lib.hid hf
    clear hf
    go_enter Tryd.func12, Tryd.ntmps12
    go_wp2_with (first | (go_at_call 8; refine (At_c _ _ _).mono ?_; rintro e w' ⟨rfl, rfl⟩) | (go_at_call 16; refine (In_c _ _ _ _).mono ?_; rintro e w' ⟨rfl, rfl⟩))
    go_loop [3] (fun i => ∃ k : Nat, k ≤ s.ret.length ∧ i = .int .i64 k ∧ okTo s.ret k) (fun i => s.ret.length - (intOf i).toNat)
    case atStart => exact ⟨0, Nat.zero_le _, rfl, fun i x hi => by omega⟩
    case round =>
      obtain ⟨k, hk, rfl, hr⟩ := hrel
      by_cases hlt : k < s.ret.length
      · obtain ⟨b, o, y, rfl, hy, ha⟩ := r3.at2 hlt
        have hblt := World.block_lt_of_cell? w _ ha
        by_cases hy2 : y < 0 ∨ 256 < y
        · have hb3 : inB y 0 256 = false := inB_false (by omega)
          go_wp2_with (first | (go_at_call 8; refine (At_c _ _ _).mono ?_; rintro e w' ⟨rfl, rfl⟩) | (go_at_call 16; refine (In_c _ _ _ _).mono ?_; rintro e w' ⟨rfl, rfl⟩))
          exact bodyPost_ret (v := fAgg (4, k)) (by simp [results, Tryd.results12, go_sem, fAgg]) rfl (FRet.mk ((HF.out k hr).2 y hy.out hy2) (by repeat (first | exact Ext.refl _ | apply Ext.alloc)))
        · have hb3 : inB y 0 256 = true := inB_true (by omega) (by omega)
          go_wp2_with (first | (go_at_call 8; refine (At_c _ _ _).mono ?_; rintro e w' ⟨rfl, rfl⟩) | (go_at_call 16; refine (In_c _ _ _ _).mono ?_; rintro e w' ⟨rfl, rfl⟩))
          refine ⟨⟨k + 1, by omega, by go_num, okTo_succ hr hy.out hy2⟩, by simp [intOf]; omega⟩
      · go_wp2
        exact bodyPost_ret (v := fAgg (0, 0)) (by simp [results, Tryd.results12, go_sem, fAgg]) rfl (FRet.mk ((HF.out k hr).1 (by omega)) (by repeat (first | exact Ext.refl _ | apply Ext.alloc)))
end Go.Proofs.YtpooedfchjpndaaDoor
