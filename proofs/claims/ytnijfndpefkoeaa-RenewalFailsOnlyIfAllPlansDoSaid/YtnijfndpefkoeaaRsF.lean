import Derived.Test.YtnijfndpefkoeaaRsD
import Derived.Test.YtnijfndpefkoeaaRsE
import Derived.Test.YtnijfndpefkoeaaRnCh
namespace Go.Proofs.Ytnijfndpefkoeaa
open Go Go.Proofs Go.RowKit
set_option maxHeartbeats 12800000
set_option maxRecDepth 100000
theorem run_build_med (a b : Int) (w : World) : (Instr.build 23 #[(0, .int .i64 a), (1, .int .i64 b)]).run Try.prog w = .ok (.agg #[.int .i64 a, .int .i64 b]) w := by kernel_rfl
theorem run_build_knd (a b : Int) (w : World) : (Instr.build 55 #[(0, .int .i64 a), (1, .int .i64 b)]).run Try.prog w = .ok (.agg #[.int .i64 a, .int .i64 b]) w := by kernel_rfl
theorem run_buildSlice_med (a b c d : Int) (w : World) : (Instr.buildSlice 24 2 #[(0, .agg #[.int .i64 a, .int .i64 b]), (1, .agg #[.int .i64 c, .int .i64 d])]).run Try.prog w = .ok (.slice (some ⟨w.heap.size, 0, none⟩) 2 2) (w.alloc (.cells #[.int .i64 a, .int .i64 b, .int .i64 c, .int .i64 d] 23)) := by kernel_rfl
theorem run_buildSlice_knd (a b c d : Int) (w : World) : (Instr.buildSlice 47 2 #[(0, .agg #[.int .i64 a, .int .i64 b]), (1, .agg #[.int .i64 c, .int .i64 d])]).run Try.prog w = .ok (.slice (some ⟨w.heap.size, 0, none⟩) 2 2) (w.alloc (.cells #[.int .i64 a, .int .i64 b, .int .i64 c, .int .i64 d] 55)) := by kernel_rfl
theorem run_buildSlice_i2 (a b : Int) (w : World) : (Instr.buildSlice 29 2 #[(0, .int .i64 a), (1, .int .i64 b)]).run Try.prog w = .ok (.slice (some ⟨w.heap.size, 0, none⟩) 2 2) (w.alloc (.cells #[.int .i64 a, .int .i64 b] 3)) := by kernel_rfl
theorem run_buildSlice_i3 (a b c : Int) (w : World) : (Instr.buildSlice 29 3 #[(0, .int .i64 a), (1, .int .i64 b), (2, .int .i64 c)]).run Try.prog w = .ok (.slice (some ⟨w.heap.size, 0, none⟩) 3 3) (w.alloc (.cells #[.int .i64 a, .int .i64 b, .int .i64 c] 3)) := by kernel_rfl
theorem prs_block {W : World} {g : Nat} {t : TypeId} {L : List (Int × Int)} (h : W.heap[g]? = some (.cells (prsV L).toArray t (0, 0))) : Prs W (some ⟨g, 0, none⟩) L := by
  intro i u hu
  exact ⟨_, rfl, by rw [add_off, Nat.zero_add, blk_cell h, List.getElem?_toArray]; exact hu⟩
/-- The plan of the example. -/
theorem ex_state : Ren.stateAt (wsF [(100, 4), (100, 2)]) 1 103 = [102, 101] := by decide +kernel
theorem ex_left : Ren.left (wsF [(100, 4), (100, 2)]) [102, 101] = 0 := by decide +kernel
theorem ex_late : Ren.lateB (wsF [(100, 4), (100, 2)]) [102, 101] = false := by decide +kernel
theorem ex_plan : Ren.planF (wsF [(100, 4), (100, 2)]) 1 = some [102, 101] := by
  have hs : Ren.schedF (wsF [(100, 4), (100, 2)]) 1 = [102, 101] := by
    have h := Ren.state_stays (ws := wsF [(100, 4), (100, 2)]) (p := 1) (y := 103) (by rw [ex_state]; exact ex_left) 19899
    rw [ex_state] at h
    exact h
  unfold Ren.planF
  rw [hs, if_pos ex_late]
theorem ex_cap1 : Ren.planF (wsF [(1, 1), (1, 1)]) 1 = none := by
  have h1 : Ren.stateAt (wsF [(1, 1), (1, 1)]) 1 4 = [2, 3] := by decide +kernel
  have hs : Ren.schedF (wsF [(1, 1), (1, 1)]) 1 = [2, 3] := by
    have h := Ren.state_stays (ws := wsF [(1, 1), (1, 1)]) (p := 1) (y := 4) (by rw [h1]; decide +kernel) 19998
    rw [h1] at h
    exact h
  unfold Ren.planF
  rw [hs, if_neg (by decide +kernel)]
theorem ex_cap2 : Ren.planF (wsF [(1, 1), (1, 1)]) 2 = some [2, 2] := by
  have h1 : Ren.stateAt (wsF [(1, 1), (1, 1)]) 2 3 = [2, 2] := by decide +kernel
  have hs : Ren.schedF (wsF [(1, 1), (1, 1)]) 2 = [2, 2] := by
    have h := Ren.state_stays (ws := wsF [(1, 1), (1, 1)]) (p := 2) (y := 3) (by rw [h1]; decide +kernel) 19999
    rw [h1] at h
    exact h
  unfold Ren.planF
  rw [hs, if_pos (by decide +kernel)]
theorem ex_best : Ren.bestAt [(10, 3), (25, 7)] 30 = ([0, 0, 0], 9) := by decide +kernel
theorem due_win (w : World) : Calls Try.prog 9 #[.agg #[.int .i64 100, .int .i64 5]] w fun e w' => e = .returned (.tuple #[.int .i64 103, .int .i64 105, .agg #[.int .i64 0, .int .i64 0]]) ∧ Ext w w' :=
  (Window_c (100, 5) w).mono fun e w' h => ⟨by have := h.2; rw [if_pos (by decide)] at this; exact this, h.1⟩
theorem due_plan (g : Nat) (w : World) (h : w.heap[g]? = some (.cells #[.int .i64 100, .int .i64 4, .int .i64 100, .int .i64 2] 23 (0, 0))) :
    Calls Try.prog 10 #[.slice (some ⟨g, 0, none⟩) 2 2, .int .i64 1] w fun e w' => ∃ A c, e = .returned (.tuple #[.slice A 2 c, .agg #[.int .i64 0, .int .i64 0]]) ∧ Sl w' .i64 A [102, 101] ∧ Ext w w' := by
  have hv : planV [(100, 4), (100, 2)] 1 = ([102, 101], (0, 0)) := by
    unfold planV
    rw [if_pos (by decide), if_pos (by decide), show (1 : Int).toNat = 1 from rfl, ex_plan]
    rfl
  have hc := Plan_c (some ⟨g, 0, none⟩) [(100, 4), (100, 2)] 2 1 w (by unfold maxLen; decide) (prs_block h)
  rw [hv] at hc
  exact hc.mono fun e w' ⟨A, c, a, b, _, d⟩ => ⟨A, c, a, b, d⟩
theorem due_cap (g : Nat) (w : World) (h : w.heap[g]? = some (.cells #[.int .i64 1, .int .i64 1, .int .i64 1, .int .i64 1] 23 (0, 0))) :
    Calls Try.prog 20 #[.slice (some ⟨g, 0, none⟩) 2 2] w fun e w' => e = .returned (.tuple #[.int .i64 2, .agg #[.int .i64 0, .int .i64 0]]) ∧ Ext w w' := by
  refine (Cap_c (some ⟨g, 0, none⟩) [(1, 1), (1, 1)] 2 w (by unfold maxLen; decide) (prs_block h)).mono ?_
  rintro e w' ⟨hx, ⟨h1, _⟩ | ⟨_, k, rfl, k1, k2, k3, k4⟩⟩
  · exact absurd (by decide) h1
  · have : k = 2 := by
      rcases Nat.lt_or_ge 2 k with q | q
      · have := k4 2 (by omega) q
        rw [ex_cap2] at this
        cases this
      · rcases Nat.lt_or_ge k 2 with r | r
        · have e1 : k = 1 := by omega
          subst e1
          rw [ex_cap1] at k3
          cases k3
        · omega
    subst this
    exact ⟨rfl, hx⟩
theorem due_cheap (g : Nat) (w : World) (h : w.heap[g]? = some (.cells #[.int .i64 10, .int .i64 3, .int .i64 25, .int .i64 7] 55 (0, 0))) :
    Calls Try.prog 21 #[.slice (some ⟨g, 0, none⟩) 2 2, .int .i64 30] w fun e w' => ∃ A c, e = .returned (.tuple #[.slice A 3 c, .int .i64 9, .agg #[.int .i64 0, .int .i64 0]]) ∧ Sl w' .i64 A [0, 0, 0] ∧ Ext w w' := by
  refine (Cheap_few (some ⟨g, 0, none⟩) [(10, 3), (25, 7)] 2 30 w (by decide) (prs_block h) ⟨by decide, by decide⟩).mono ?_
  rintro e w' ⟨hx, ⟨h1, _⟩ | ⟨_, A, c, he, hs, _⟩⟩
  · exact absurd (by decide) h1
  · rw [show (30 : Int).toNat = 30 from rfl, ex_best] at he hs
    exact ⟨A, c, he, hs, hx⟩
theorem fvar {w1 : World} (c i : Int) : ((w1.alloc (.cells #[.int .i64 0, .int .i64 0] 26)).setRow w1.heap.size #[.int .i64 c, .int .i64 i]).heap[w1.heap.size]? = some (.cells #[.int .i64 c, .int .i64 i] 26 (0, 0)) ∧ Ext w1 ((w1.alloc (.cells #[.int .i64 0, .int .i64 0] 26)).setRow w1.heap.size #[.int .i64 c, .int .i64 i]) :=
  ⟨setRow_heap _ _ _ _ _ _ (heap_alloc_new w1 _), ((Ext.refl w1).alloc _).setRow (Nat.le_refl _) _⟩
theorem due_c (w : World) : Calls Try.prog 11 #[] w (BRet w true) := by
  go_enter Try.func11, Try.ntmps11
  go_upto_region 1 with (fail)
  go_cut [1, 2, 3] (fun s1 s2 s3 wx => ∃ g, s1 = .int .i64 103 ∧ s2 = .int .i64 105 ∧ s3 = .pointer (some ⟨g, 0, none⟩) ∧ wx.heap[g]? = some (.cells #[.int .i64 0, .int .i64 0] 26 (0, 0)) ∧ Ext w wx)
  case first =>
    have rbm := run_build_med 100 5
    go_wp2_with fail
    refine (due_win _).mono ?_
    rintro e w1 ⟨rfl, hx1⟩
    have HX1 := Lib.hid hx1
    have HZ := Lib.hid (heap_alloc_new w1 (.cells #[.int .i64 0, .int .i64 0] 26))
    clear hx1
    go_wp2_with (refine wpList_store_row rfl 26 _ _ rfl w1.heap.size #[.int .i64 0, .int .i64 0] rfl rfl 26 _ HZ.out sizeF rfl (by kernel_rfl) ?_)
    go_meet
    exact ⟨_, rfl, rfl, rfl, (fvar 0 0).1, HX1.out.trans (fvar 0 0).2⟩
  obtain ⟨g3, rfl, rfl, rfl, hb, hx⟩ := hcut
  obtain ⟨va, rfl⟩ : ∃ va : World, va = wc := ⟨_, rfl⟩
  have HB3 := Lib.hid hb
  have HX := Lib.hid hx
  clear hb hx
  go_upto_region 2 with (fail)
  go_cut [4, 5] (fun s4 s5 wx => ∃ g A c, s4 = .slice A 2 c ∧ s5 = .pointer (some ⟨g, 0, none⟩) ∧ Sl wx .i64 A [102, 101] ∧ wx.heap[g]? = some (.cells #[.int .i64 0, .int .i64 0] 26 (0, 0)) ∧ Ext va wx)
  case first =>
    have rbm := run_build_med 100 4
    have rbm2 := run_build_med 100 2
    have rbs := run_buildSlice_med 100 4 100 2
    have HR := Lib.hid (due_plan va.heap.size (va.alloc (.cells #[.int .i64 100, .int .i64 4, .int .i64 100, .int .i64 2] 23)) (heap_alloc_new va _))
    go_wp2_with fail
    refine HR.out.mono ?_
    rintro e w1 ⟨A, c, rfl, hs, hx1⟩
    have HS := Lib.hid hs
    clear hs
    have HX1 := Lib.hid hx1
    have HZ := Lib.hid (heap_alloc_new w1 (.cells #[.int .i64 0, .int .i64 0] 26))
    clear hx1
    go_wp2_with (refine wpList_store_row rfl 26 _ _ rfl w1.heap.size #[.int .i64 0, .int .i64 0] rfl rfl 26 _ HZ.out sizeF rfl (by kernel_rfl) ?_)
    go_meet
    exact ⟨_, A, c, rfl, rfl, HS.out.ext (fvar 0 0).2, (fvar 0 0).1, (((Ext.refl va).alloc _).trans HX1.out).trans (fvar 0 0).2⟩
  obtain ⟨g5, A4, c4, rfl, rfl, hs, hb, hx⟩ := hcut
  obtain ⟨vb, rfl⟩ : ∃ vb : World, vb = wc := ⟨_, rfl⟩
  have HB3 := Lib.hid (ext_heap hx HB3.out)
  have HB5 := Lib.hid hb
  have HS4 := Lib.hid hs
  have HX := Lib.hid (HX.out.trans hx)
  clear hs hb hx
  go_upto_region 3 with (fail)
  go_cut [6, 7] (fun s6 s7 wx => ∃ g, s6 = .int .i64 2 ∧ s7 = .pointer (some ⟨g, 0, none⟩) ∧ wx.heap[g]? = some (.cells #[.int .i64 0, .int .i64 0] 26 (0, 0)) ∧ Ext vb wx)
  case first =>
    have rbm := run_build_med 1 1
    have rbs := run_buildSlice_med 1 1 1 1
    have HR := Lib.hid (due_cap vb.heap.size (vb.alloc (.cells #[.int .i64 1, .int .i64 1, .int .i64 1, .int .i64 1] 23)) (heap_alloc_new vb _))
    go_wp2_with fail
    refine HR.out.mono ?_
    rintro e w1 ⟨rfl, hx1⟩
    have HX1 := Lib.hid hx1
    have HZ := Lib.hid (heap_alloc_new w1 (.cells #[.int .i64 0, .int .i64 0] 26))
    clear hx1
    go_wp2_with (refine wpList_store_row rfl 26 _ _ rfl w1.heap.size #[.int .i64 0, .int .i64 0] rfl rfl 26 _ HZ.out sizeF rfl (by kernel_rfl) ?_)
    go_meet
    exact ⟨_, rfl, rfl, (fvar 0 0).1, (((Ext.refl vb).alloc _).trans HX1.out).trans (fvar 0 0).2⟩
  obtain ⟨g7, rfl, rfl, hb, hx⟩ := hcut
  obtain ⟨vc, rfl⟩ : ∃ vc : World, vc = wc := ⟨_, rfl⟩
  have HB3 := Lib.hid (ext_heap hx HB3.out)
  have HB5 := Lib.hid (ext_heap hx HB5.out)
  have HB7 := Lib.hid hb
  have HS4 := Lib.hid (HS4.out.ext hx)
  have HX := Lib.hid (HX.out.trans hx)
  clear hb hx
  go_upto_region 4 with (fail)
  go_cut [8, 9, 10] (fun s8 s9 s10 wx => ∃ g A c, s8 = .slice A 3 c ∧ s9 = .int .i64 9 ∧ s10 = .pointer (some ⟨g, 0, none⟩) ∧ Sl wx .i64 A [0, 0, 0] ∧ wx.heap[g]? = some (.cells #[.int .i64 0, .int .i64 0] 26 (0, 0)) ∧ Ext vc wx)
  case first =>
    have rbm := run_build_knd 10 3
    have rbm2 := run_build_knd 25 7
    have rbs := run_buildSlice_knd 10 3 25 7
    have HR := Lib.hid (due_cheap vc.heap.size (vc.alloc (.cells #[.int .i64 10, .int .i64 3, .int .i64 25, .int .i64 7] 55)) (heap_alloc_new vc _))
    go_wp2_with fail
    refine HR.out.mono ?_
    rintro e w1 ⟨A, c, rfl, hs, hx1⟩
    have HS := Lib.hid hs
    clear hs
    have HX1 := Lib.hid hx1
    have HZ := Lib.hid (heap_alloc_new w1 (.cells #[.int .i64 0, .int .i64 0] 26))
    clear hx1
    go_wp2_with (refine wpList_store_row rfl 26 _ _ rfl w1.heap.size #[.int .i64 0, .int .i64 0] rfl rfl 26 _ HZ.out sizeF rfl (by kernel_rfl) ?_)
    go_meet
    exact ⟨_, A, c, rfl, rfl, rfl, HS.out.ext (fvar 0 0).2, (fvar 0 0).1, (((Ext.refl vc).alloc _).trans HX1.out).trans (fvar 0 0).2⟩
  obtain ⟨g10, A8, c8, rfl, rfl, rfl, hs, hb, hx⟩ := hcut
  obtain ⟨vd, rfl⟩ : ∃ vd : World, vd = wc := ⟨_, rfl⟩
  have k3 := blk_cell (ext_heap hx HB3.out) 0
  have k5 := blk_cell (ext_heap hx HB5.out) 0
  have k7 := blk_cell (ext_heap hx HB7.out) 0
  have k10 := blk_cell hb 0
  have k3' : vd.cell? ⟨g3, 0, none⟩ = some (.int .i64 0) := k3
  have k5' : vd.cell? ⟨g5, 0, none⟩ = some (.int .i64 0) := k5
  have k7' : vd.cell? ⟨g7, 0, none⟩ = some (.int .i64 0) := k7
  have k10' : vd.cell? ⟨g10, 0, none⟩ = some (.int .i64 0) := k10
  have HI1 := Lib.hid (fun (W : World) (x : Ext vd W) (g : Nat) (hg : W.heap[g]? = some (.cells #[.int .i64 102, .int .i64 101] 3 (0, 0))) => Ints_c A4 (some ⟨g, 0, none⟩) [102, 101] [102, 101] c4 2 W (by unfold maxLen; decide) (by unfold maxLen; decide) (HS4.out.ext (hx.trans x)) (sl_block hg rfl))
  have HI2 := Lib.hid (fun (W : World) (x : Ext vd W) (g : Nat) (hg : W.heap[g]? = some (.cells #[.int .i64 0, .int .i64 0, .int .i64 0] 3 (0, 0))) => Ints_c A8 (some ⟨g, 0, none⟩) [0, 0, 0] [0, 0, 0] c8 3 W (by unfold maxLen; decide) (by unfold maxLen; decide) (Sl.ext hs x) (sl_block hg rfl))
  have HX := Lib.hid (HX.out.trans hx)
  have rb2 := run_buildSlice_i2 102 101
  have rb3 := run_buildSlice_i3 0 0 0
  clear hs hb hx HB3 HB5 HB7 k3 k5 k7 k10
  have HX1 := Lib.hid ((Ext.refl vd).alloc (.cells #[.int .i64 102, .int .i64 101] 3))
  have HI1' := Lib.hid (HI1.out _ HX1.out vd.heap.size (heap_alloc_new vd _))
  go_wp2_with fail
  refine HI1'.out.mono ?_
  rintro e w' ⟨rfl, n1, rfl⟩
  have HX2 := Lib.hid (Ext.drewN HX1.out n1)
  have HX3 := Lib.hid (HX2.out.alloc (.cells #[.int .i64 0, .int .i64 0, .int .i64 0] 3))
  have hsz : ((vd.alloc (.cells #[.int .i64 102, .int .i64 101] 3)).drewN n1).heap.size = vd.heap.size + 1 := by show (vd.heap.push _).size = _; rw [Array.size_push]
  have hnw := heap_alloc_new ((vd.alloc (.cells #[.int .i64 102, .int .i64 101] 3)).drewN n1) (.cells #[.int .i64 0, .int .i64 0, .int .i64 0] 3)
  rw [hsz] at hnw
  have HI2' := Lib.hid (HI2.out _ HX3.out (vd.heap.size + 1) hnw)
  clear HI1 HI2 HI1' k3' k5' k7' k10' hsz hnw
  go_wp2_with fail
  refine HI2'.out.mono ?_
  rintro e w' ⟨rfl, n2, rfl⟩
  go_wp2_with fail
  go_ret
  exact ⟨rfl, HX.out.trans (Ext.drewN HX3.out n2)⟩
end Go.Proofs.Ytnijfndpefkoeaa
