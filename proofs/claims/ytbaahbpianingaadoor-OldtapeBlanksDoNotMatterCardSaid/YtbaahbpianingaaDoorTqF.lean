import Derived.Test.YtbaahbpianingaaDoorTqE
namespace Go.Proofs.YtbaahbpianingaaDoor
open Go Go.Proofs Go.RowKit
open Tape (Rule Ts)
set_option maxHeartbeats 6400000
set_option maxRecDepth 100000
def goodTo (l : List Int) (k : Nat) : Bool := (l.take k).all symB
theorem goodTo_succ {l : List Int} {k : Nat} {x : Int} (h : l[k]? = some x) : goodTo l (k + 1) = (goodTo l k && symB x) := by
  unfold goodTo
  rw [List.take_add_one, h]
  simp
theorem goodTo_all (l : List Int) : goodTo l l.length = !badB l := by
  unfold goodTo badB
  rw [List.take_length]
  induction l with
  | nil => rfl
  | cons x l ih => rw [List.all_cons, List.any_cons, ih]; cases symB x <;> simp
theorem TapeFault_c (cs : Array Value) (s : Ts) (w : World) (h : TsIs w cs s) : Calls Tryd.prog 30 #[.agg cs] w (FRet w (faultT s)) := by
  obtain ⟨A0, c0, e0, l0, m0, -, s0⟩ := h.rules
  obtain ⟨A1, c1, e1, l1, m1, -, s1⟩ := h.cells
  have e2 := h.at_
  have e3 := h.state
  have e4 := h.stop
  have HCR := Lib.hid (fun (W : World) (x : Ext w W) => RulesFault_c A0 s.rules c0 W (Nat.le_trans l0 m0) (s0.ext x) h.wf.rules)
  have HSL := Lib.hid (fun (W : World) (x : Ext w W) => s1.ext x)
  have hnl := Nat.le_trans l1 m1
  unfold maxLen at hnl
  obtain ⟨R, hR⟩ : ∃ R, R = faultT s := ⟨_, rfl⟩
  have HR := Lib.hid hR
  rw [← hR]
  have HSZ := Lib.hid h.size
  clear hR h s0 s1 l0 m0 l1 m1
  go_enter Tryd.func30, Tryd.ntmps30
  go_upto_region 0 with (fail)
  go_cut [1, 2] (fun s1 s2 wx => s1 = .pointer (some ⟨w.heap.size, 0, none⟩) ∧ s2 = .pointer (some ⟨w.heap.size + 1, 0, none⟩) ∧ wx.heap[w.heap.size]? = some (.cells cs 54 (0, 0)) ∧ wx.heap[w.heap.size + 1]? = some (.cells #[.int .i64 0, .int .i64 0] 28 (0, 0)) ∧ Ext w wx)
  case first =>
    go_wp2_with fail
    go_meet
    exact ⟨rfl, by simp, heap_alloc2_old w _ _, heap_alloc2_new w _ _, ((Ext.refl w).alloc _).alloc _⟩
  obtain ⟨rfl, rfl, hb1, hb2, hx⟩ := hcut
  obtain ⟨wa, rfl⟩ : ∃ wa : World, wa = wc := ⟨_, rfl⟩
  have HX := Lib.hid hx
  have HB1 := Lib.hid hb1
  have HB2 := Lib.hid hb2
  have k0 : wa.cell? ⟨w.heap.size, 0, none⟩ = some (.slice A0 s.rules.length c0) := (blk_cell hb1 0).trans e0
  obtain ⟨fc, fi, hf⟩ : ∃ fc fi, faultR s.rules = (fc, fi) := ⟨_, _, rfl⟩
  have HF := Lib.hid hf
  clear hx hb1 hb2 hf
  go_upto_region 1 with (fail)
  go_cut [3] (fun s3 wx => ∃ g3, s3 = .pointer (some ⟨g3, 0, none⟩) ∧ wx.heap[g3]? = some (.cells #[.int .i64 fc, .int .i64 fi] 28 (0, 0)) ∧ Ext wa wx)
  case first =>
    have hr := HCR.out wa HX.out
    rw [HF.out] at hr
    have HRR := Lib.hid hr
    clear hr
    go_wp2_with fail
    refine HRR.out.mono ?_
    rintro e w1 ⟨rfl, hx1⟩
    have HX1 := Lib.hid hx1
    have HZ := Lib.hid (heap_alloc_new w1 (.cells #[.int .i64 0, .int .i64 0] 28))
    clear hx1
    simp only [fAgg]
    go_wp2_with (refine wpList_store_row rfl 28 _ _ rfl w1.heap.size #[.int .i64 fc, .int .i64 fi] rfl rfl 28 _ HZ.out sizeF rfl (by kernel_rfl) ?_)
    go_meet
    exact ⟨_, rfl, setRow_heap _ _ _ _ _ _ HZ.out, HX1.out.trans (((Ext.refl w1).alloc _).setRow (Nat.le_refl _) _)⟩
  obtain ⟨g3, rfl, hb3, hx3⟩ := hcut
  obtain ⟨wb, rfl⟩ : ∃ wb : World, wb = wc := ⟨_, rfl⟩
  have HXB := Lib.hid (HX.out.trans hx3)
  have HC1 := Lib.hid (ext_heap hx3 HB1.out)
  have HC2 := Lib.hid (ext_heap hx3 HB2.out)
  have f0 : wb.cell? ⟨g3, 0, none⟩ = some (.int .i64 fc) := blk_cell hb3 0
  have f1 : wb.cell? ⟨g3, 1, none⟩ = some (.int .i64 fi) := blk_cell hb3 1
  have k1 : wb.cell? ⟨w.heap.size, 1, none⟩ = some (.slice A1 s.cells.length c1) := (blk_cell HC1.out 1).trans e1
  have k2 : wb.cell? ⟨w.heap.size, 2, none⟩ = some (.int .i64 s.at_) := (blk_cell HC1.out 2).trans e2
  have k3 : wb.cell? ⟨w.heap.size, 3, none⟩ = some (.int .i64 s.state) := (blk_cell HC1.out 3).trans e3
  have k4 : wb.cell? ⟨w.heap.size, 4, none⟩ = some (.int .i64 s.stop) := (blk_cell HC1.out 4).trans e4
  clear hx3 k0 e0 e1 e2 e3 e4 hb3
  by_cases hgood : faultR s.rules = (0, 0)
  rotate_left
  · have hne : (fc != 0) = true := by
      have := faultR_code hgood
      rw [HF.out] at this
      simpa using this
    have HRE : Hid ((fc, fi) = R) := Lib.hid (by rw [HR.out]; unfold faultT; rw [if_pos hgood, HF.out])
    clear hgood
    go_wp2_with (refine wpList_store_row rfl 28 _ _ rfl (w.heap.size + 1) #[.int .i64 fc, .int .i64 fi] rfl rfl 28 _ HC2.out sizeF rfl (by kernel_rfl) ?_)
    refine bodyPost_ret (results_cell_row rfl _ _ (w.heap.size + 1) 28 #[.int .i64 fc, .int .i64 fi] (0, 0) _ rfl ?_ Tryd.underlying28 rfl sizeF) rfl (FRet.mk HRE.out (HXB.out.setRow (by omega) _))
    exact setRow_heap _ _ _ _ _ _ HC2.out
  have hfc : fc = 0 := by have := HF.out; rw [hgood] at this; cases this; rfl
  have hfi : fi = 0 := by have := HF.out; rw [hgood] at this; cases this; rfl
  subst hfc hfi
  have HG := Lib.hid hgood
  clear hgood
  cases q1 : inB s.cells.length 1 200
  · have HRE : Hid ((9, -1) = R) := Lib.hid (by rw [HR.out]; unfold faultT; rw [if_neg (by rw [HG.out]; simp), if_pos q1])
    have HD2 := Lib.hid (ext_heap ((Ext.refl wb).alloc (.cells #[.int .i64 9, .int .i64 (-1)] 28)) HC2.out)
    go_wp2_with (first | (go_at_call 22; refine (In_c _ _ _ _).mono ?_; rintro e w' ⟨rfl, rfl⟩) | (go_at_call 14; refine (At_c _ _ _).mono ?_; rintro e w' ⟨rfl, rfl⟩) | refine wpList_store_row rfl 28 _ _ rfl (w.heap.size + 1) #[.int .i64 9, .int .i64 (-1)] rfl rfl 28 _ HD2.out sizeF rfl (by kernel_rfl) ?_)
    refine bodyPost_ret (results_cell_row rfl _ _ (w.heap.size + 1) 28 #[.int .i64 9, .int .i64 (-1)] (0, 0) _ rfl ?_ Tryd.underlying28 rfl sizeF) rfl (FRet.mk HRE.out ((HXB.out.alloc _).setRow (by omega) _))
    exact setRow_heap _ _ _ _ _ _ HD2.out
  have hn1 : (1 : Int) ≤ (s.cells.length : Int) ∧ (s.cells.length : Int) ≤ 200 := by unfold inB at q1; simpa using q1
  obtain ⟨n, hn⟩ : ∃ n, n = s.cells.length := ⟨_, rfl⟩
  rw [← hn] at k1 hnl hn1
  have HN := Lib.hid hn
  have w1 : IntKind.i64.wrap ((n : Int) - 1) = (n : Int) - 1 := IntWalk.i64_in _ (by omega)
  clear hn
  go_upto_region 6 with (go_at_call 22; refine (In_c _ _ _ _).mono ?_; rintro e w' ⟨rfl, rfl⟩; rw [show inB (n : Int) 1 200 = true by rw [HN.out]; exact q1])
  go_cut [4] (fun s4 wx => ∃ bb : Bool, s4 = .bool bb ∧ Hid (bb = (inB s.at_ 0 ((n : Int) - 1) && inB s.state 0 15 && inB s.stop 0 7)) ∧ wb = wx)
  case first =>
    cases q3 : inB s.at_ 0 ((n : Int) - 1)
    · go_wp2_with (go_at_call 22; refine (In_c _ _ _ _).mono ?_; rintro e w' ⟨rfl, rfl⟩; try rw [q3])
      go_meet
      exact ⟨false, by simp, Lib.hid (by simp [q3]), rfl⟩
    cases q4 : inB s.state 0 15
    · go_wp2_with (go_at_call 22; refine (In_c _ _ _ _).mono ?_; rintro e w' ⟨rfl, rfl⟩; first | rw [q3] | rw [q4])
      go_meet
      exact ⟨false, by simp, Lib.hid (by simp [q3, q4]), rfl⟩
    cases q5 : inB s.stop 0 7
    · go_wp2_with (go_at_call 22; refine (In_c _ _ _ _).mono ?_; rintro e w' ⟨rfl, rfl⟩; first | rw [q3] | rw [q4] | rw [q5])
      go_meet
      exact ⟨false, by simp, Lib.hid (by simp [q3, q4, q5]), rfl⟩
    · go_wp2_with (go_at_call 22; refine (In_c _ _ _ _).mono ?_; rintro e w' ⟨rfl, rfl⟩; first | rw [q3] | rw [q4] | rw [q5])
      go_meet
      exact ⟨true, by simp, Lib.hid (by simp [q3, q4, q5]), rfl⟩
  obtain ⟨b0, rfl, hb0, rfl⟩ := hcut
  go_wp2_with fail
  go_loop [4, 5] (fun t4 t5 => ∃ k : Nat, ∃ bb : Bool, k ≤ n ∧ t5 = .int .i64 k ∧ t4 = .bool bb ∧ Hid (bb = (b0 && goodTo s.cells k))) (fun _ t5 => n - (intOf t5).toNat)
  case atStart => exact ⟨0, b0, Nat.zero_le _, rfl, rfl, Lib.hid (by simp [goodTo])⟩
  case round =>
  obtain ⟨k, bb, hk, rfl, rfl, hbb⟩ := hrel
  by_cases hlt : k < n
  · obtain ⟨b, o, x, rfl, hx, ha⟩ := (HSL.out wb HXB.out).at2 (show k < s.cells.length by rw [← HN.out]; exact hlt)
    have HS := Lib.hid (goodTo_succ hx.out)
    cases bb with
    | false =>
      go_wp2_with fail
      go_round
      case rel => exact ⟨k + 1, false, by omega, by go_num, rfl, Lib.hid (by rw [HS.out, ← Bool.and_assoc, ← hbb.out]; rfl)⟩
      case measure => simp [intOf]; omega
    | true =>
      go_wp2_with (go_at_call 22; refine (In_c _ _ _ _).mono ?_; rintro e w' ⟨rfl, rfl⟩)
      go_round
      case rel => exact ⟨k + 1, inB x 0 3, by omega, by go_num, by simp, Lib.hid (by rw [HS.out, ← Bool.and_assoc, ← hbb.out]; rfl)⟩
      case measure => simp [intOf]; omega
  · have hkn : k = n := by omega
    subst hkn
    have HBB : Hid (bb = (inB s.at_ 0 ((k : Int) - 1) && inB s.state 0 15 && inB s.stop 0 7 && !badB s.cells)) := Lib.hid (by rw [hbb.out, hb0.out, HN.out, goodTo_all])
    clear hbb
    cases bb with
    | false =>
      have HRE : Hid ((4, -1) = R) := Lib.hid (by
        rw [HR.out]; unfold faultT
        rw [if_neg (by rw [HG.out]; simp), if_neg (by rw [q1]; decide), if_pos]
        have := HBB.out
        rw [HN.out] at this
        revert this
        cases badB s.cells <;> cases inB s.at_ 0 ((s.cells.length : Int) - 1) <;> cases inB s.state 0 15 <;> cases inB s.stop 0 7 <;> simp)
      clear HBB
      have HD2 := Lib.hid (ext_heap ((Ext.refl wb).alloc (.cells #[.int .i64 4, .int .i64 (-1)] 28)) HC2.out)
      go_wp2_with (first | (go_at_call 14; refine (At_c _ _ _).mono ?_; rintro e w' ⟨rfl, rfl⟩) | refine wpList_store_row rfl 28 _ _ rfl (w.heap.size + 1) #[.int .i64 4, .int .i64 (-1)] rfl rfl 28 _ HD2.out sizeF rfl (by kernel_rfl) ?_)
      refine bodyPost_ret (results_cell_row rfl _ _ (w.heap.size + 1) 28 #[.int .i64 4, .int .i64 (-1)] (0, 0) _ rfl ?_ Tryd.underlying28 rfl sizeF) rfl (FRet.mk HRE.out ((HXB.out.alloc _).setRow (by omega) _))
      exact setRow_heap _ _ _ _ _ _ HD2.out
    | true =>
      have HRE : Hid ((0, 0) = R) := Lib.hid (by
        rw [HR.out]; unfold faultT
        rw [if_neg (by rw [HG.out]; simp), if_neg (by rw [q1]; decide), if_neg]
        have := HBB.out
        rw [HN.out] at this
        revert this
        cases badB s.cells <;> cases inB s.at_ 0 ((s.cells.length : Int) - 1) <;> cases inB s.state 0 15 <;> cases inB s.stop 0 7 <;> simp)
      clear HBB
      go_wp2_with (refine wpList_store_row rfl 28 _ _ rfl (w.heap.size + 1) #[.int .i64 0, .int .i64 0] rfl rfl 28 _ HC2.out sizeF rfl (by kernel_rfl) ?_)
      refine bodyPost_ret (results_cell_row rfl _ _ (w.heap.size + 1) 28 #[.int .i64 0, .int .i64 0] (0, 0) _ rfl ?_ Tryd.underlying28 rfl sizeF) rfl (FRet.mk HRE.out (HXB.out.setRow (by omega) _))
      exact setRow_heap _ _ _ _ _ _ HC2.out
end Go.Proofs.YtbaahbpianingaaDoor
