import Derived.Test.YtpooedfchjpndaaDoorSameL
import Derived.Test.YtpooedfchjpndaaDoorLeaf
namespace Go.Proofs.YtpooedfchjpndaaDoor
open Go Go.Proofs Go.RowKit
set_option maxHeartbeats 1600000
set_option maxRecDepth 100000
def sameB (s t : St) : Bool := decide (s.image = t.image) && decide (s.at_ = t.at_) && decide (s.data = t.data) && decide (s.ret = t.ret) && decide (s.mem = t.mem) && decide (s.input = t.input) && decide (s.output = t.output) && decide (s.stop = t.stop)
theorem sameB_iff (s t : St) : sameB s t = true ↔ s = t := by
  cases s; cases t; simp [sameB, and_assoc]
def BRet (w : World) (b : Bool) (e : Ending) (w' : World) : Prop := e = .returned (.bool b) ∧ Ext w w'
theorem BRet.mk {w w' : World} {a b : Bool} (h : a = b) (x : Ext w w') : BRet w b (.returned (.bool a)) w' := ⟨by rw [h], x⟩
theorem size25 (w : World) : (sizeOf 25).run Tryd.prog w = .ok 1 w := by kernel_rfl
theorem mem_cells {w : World} {cs : Array Value} {s : St} (h : StIs w cs s) : ∀ i u, (s.mem.map (Value.int .u16))[i]? = some u → cs[4 + i]? = some u := by
  intro i u hu
  have hl := h.wf.memlen
  rw [List.getElem?_map] at hu
  cases hx : s.mem[i]? with
  | none => rw [hx] at hu; cases hu
  | some x =>
    rw [hx] at hu
    cases hu
    obtain ⟨hi, _⟩ := List.getElem?_eq_some_iff.1 hx
    rw [h.mem i (by omega), hx]
    rfl
theorem blk1 (w : World) (cs1 cs2 : Array Value) (n : Nat) : (((w.alloc (.cells cs1 28)).alloc (.cells cs2 28)).drewN n).heap[w.heap.size]? = some (.cells cs1 28 (0, 0)) := heap_alloc2_old w _ _
theorem blk2 (w : World) (cs1 cs2 : Array Value) (n : Nat) : (((w.alloc (.cells cs1 28)).alloc (.cells cs2 28)).drewN n).heap[w.heap.size + 1]? = some (.cells cs2 28 (0, 0)) := heap_alloc2_new w _ _
theorem same_c (cs1 cs2 : Array Value) (s t : St) (w : World) (h : StIs w cs1 s) (h' : StIs w cs2 t) : Calls Tryd.prog 9 #[.agg cs1, .agg cs2] w (BRet w (sameB s t)) := by
  have hx : Ext w ((w.alloc (.cells cs1 28)).alloc (.cells cs2 28)) := ((Ext.refl w).alloc _).alloc _
  obtain ⟨A0, c0, eA0, lA0, mA0, -, sA0⟩ := h.image
  obtain ⟨A0', c0', eA0', lA0', mA0', -, sA0'⟩ := h'.image
  obtain ⟨A2, c2, eA2, lA2, mA2, -, sA2⟩ := h.data
  obtain ⟨A2', c2', eA2', lA2', mA2', -, sA2'⟩ := h'.data
  obtain ⟨A3, c3, eA3, lA3, mA3, -, sA3⟩ := h.ret
  obtain ⟨A3', c3', eA3', lA3', mA3', -, sA3'⟩ := h'.ret
  obtain ⟨A5, c5, eA5, lA5, mA5, -, sA5⟩ := h.input
  obtain ⟨A5', c5', eA5', lA5', mA5', -, sA5'⟩ := h'.input
  obtain ⟨A6, c6, eA6, lA6, mA6, -, sA6⟩ := h.output
  obtain ⟨A6', c6', eA6', lA6', mA6', -, sA6'⟩ := h'.output
  have e1 := h.at_
  have e1' := h'.at_
  have e7 := h.stop
  have e7' := h'.stop
  have C1 := Lib.hid (SameBytes_c A0 A0' s.image t.image c0 c0' ((w.alloc (.cells cs1 28)).alloc (.cells cs2 28)) (sA0.ext hx) (sA0'.ext hx) h.wf.image h'.wf.image)
  have C3 := Lib.hid (halves_c A2 A2' s.data t.data c2 c2' ((w.alloc (.cells cs1 28)).alloc (.cells cs2 28)) (Nat.le_trans lA2 mA2) (Nat.le_trans lA2' mA2') (sA2.ext hx) (sA2'.ext hx))
  have C4 := Lib.hid (fun n => Ints_c A3 A3' s.ret t.ret c3 c3' (((w.alloc (.cells cs1 28)).alloc (.cells cs2 28)).drewN n) (Nat.le_trans lA3 mA3) (Nat.le_trans lA3' mA3') (sA3.ext (hx.drewN n)) (sA3'.ext (hx.drewN n)))
  have C6 := Lib.hid (fun n => SameBytes_c A5 A5' s.input t.input c5 c5' (((w.alloc (.cells cs1 28)).alloc (.cells cs2 28)).drewN n) (sA5.ext (hx.drewN n)) (sA5'.ext (hx.drewN n)) h.wf.input h'.wf.input)
  have C7 := Lib.hid (fun n => SameBytes_c A6 A6' s.output t.output c6 c6' (((w.alloc (.cells cs1 28)).alloc (.cells cs2 28)).drewN n) (sA6.ext (hx.drewN n)) (sA6'.ext (hx.drewN n)) h.wf.output h'.wf.output)
  have hmm : ∀ i u, (s.mem.map (Value.int .u16))[i]? = some u → cs1[4 + i]? = some u := mem_cells h
  have hmm' : ∀ i u, (t.mem.map (Value.int .u16))[i]? = some u → cs2[4 + i]? = some u := mem_cells h'
  have HM := Lib.hid hmm
  have HM' := Lib.hid hmm'
  have q26 : ∀ W : World, (Op.equalIn 10000 26 (.agg (s.mem.map (Value.int .u16)).toArray) (.agg (t.mem.map (Value.int .u16)).toArray)).run Tryd.prog W = .ok (s.mem == t.mem) W := fun W => run_equalIn_ints W 9998 26 25 .u16 32 Tryd.underlying26 Tryd.underlying25 (fun w => size25 w) s.mem t.mem h.wf.memlen h'.wf.memlen
  have HL := Lib.hid h.wf.memlen
  have HL' := Lib.hid h'.wf.memlen
  have HX := Lib.hid hx
  clear h h' hmm hmm' hx
  clear lA0 mA0 sA0 lA0' mA0' sA0'
  clear lA2 mA2 sA2 lA2' mA2' sA2'
  clear lA3 mA3 sA3 lA3' mA3' sA3'
  clear lA5 mA5 sA5 lA5' mA5' sA5'
  clear lA6 mA6 sA6 lA6' mA6' sA6'
  by_cases d1 : s.image = t.image
  rotate_left
  · have hf : false = sameB s t := by simp [sameB, d1]
    have HF := Lib.hid hf
    have qd1 : decide (s.image = t.image) = false := by simpa using d1
    clear hf d1
    go_enter Tryd.func9, Tryd.ntmps9
    go_wp2_with fail
    refine C1.out.mono ?_; rintro e w' ⟨rfl, rfl⟩
    go_wp2_with fail
    go_ret
    exact BRet.mk HF.out (HX.out)
  have Hd1 := Lib.hid d1
  have qd1 : decide (s.image = t.image) = true := by simpa using d1
  clear d1
  by_cases d2 : s.at_ = t.at_
  rotate_left
  · have hf : false = sameB s t := by simp [sameB, d2]
    have HF := Lib.hid hf
    have qd2 : (s.at_ == t.at_) = false := by simpa using d2
    clear hf d2
    go_enter Tryd.func9, Tryd.ntmps9
    go_wp2_with fail
    refine C1.out.mono ?_; rintro e w' ⟨rfl, rfl⟩
    go_wp2_with fail
    go_ret
    exact BRet.mk HF.out (HX.out)
  have Hd2 := Lib.hid d2
  have qd2 : (s.at_ == t.at_) = true := by simpa using d2
  clear d2
  by_cases d3 : s.data = t.data
  rotate_left
  · have hf : false = sameB s t := by simp [sameB, d3]
    have HF := Lib.hid hf
    have qd3 : decide (s.data = t.data) = false := by simpa using d3
    clear hf d3
    go_enter Tryd.func9, Tryd.ntmps9
    go_wp2_with fail
    refine C1.out.mono ?_; rintro e w' ⟨rfl, rfl⟩
    go_wp2_with fail
    refine C3.out.mono ?_; rintro e w' ⟨rfl, n3, rfl⟩
    go_wp2_with fail
    go_ret
    exact BRet.mk HF.out (HX.out.drewN _)
  have Hd3 := Lib.hid d3
  have qd3 : decide (s.data = t.data) = true := by simpa using d3
  clear d3
  by_cases d4 : s.ret = t.ret
  rotate_left
  · have hf : false = sameB s t := by simp [sameB, d4]
    have HF := Lib.hid hf
    have qd4 : decide (s.ret = t.ret) = false := by simpa using d4
    clear hf d4
    go_enter Tryd.func9, Tryd.ntmps9
    go_wp2_with fail
    refine C1.out.mono ?_; rintro e w' ⟨rfl, rfl⟩
    go_wp2_with fail
    refine C3.out.mono ?_; rintro e w' ⟨rfl, n3, rfl⟩
    go_wp2_with fail
    refine (C4.out _).mono ?_; rintro e w' ⟨rfl, n4, rfl⟩
    go_wp2_with fail
    go_ret
    exact BRet.mk HF.out (HX.out.drewN _)
  have Hd4 := Lib.hid d4
  have qd4 : decide (s.ret = t.ret) = true := by simpa using d4
  clear d4
  by_cases d5 : s.mem = t.mem
  rotate_left
  · have hf : false = sameB s t := by simp [sameB, d5]
    have HF := Lib.hid hf
    have qd5 : (s.mem == t.mem) = false := by simpa using d5
    clear hf d5
    go_enter Tryd.func9, Tryd.ntmps9
    go_wp2_with fail
    refine C1.out.mono ?_; rintro e w' ⟨rfl, rfl⟩
    go_wp2_with fail
    refine C3.out.mono ?_; rintro e w' ⟨rfl, n3, rfl⟩
    go_wp2_with fail
    refine (C4.out _).mono ?_; rintro e w' ⟨rfl, n4, rfl⟩
    go_wp2_with (first | (refine wpList_load_mid (by rfl) 26 _ rfl w.heap.size 4 (by rfl) 28 cs1 (0, 0) _ (s.mem.map (Value.int .u16)) (blk1 w cs1 cs2 _) HM.out Tryd.underlying26 rfl (by rw [List.length_map, HL.out]; kernel_rfl) ?_) | (refine wpList_load_mid (by rfl) 26 _ rfl (w.heap.size + 1) 4 (by rfl) 28 cs2 (0, 0) _ (t.mem.map (Value.int .u16)) (blk2 w cs1 cs2 _) HM'.out Tryd.underlying26 rfl (by rw [List.length_map, HL'.out]; kernel_rfl) ?_))
    go_ret
    exact BRet.mk HF.out (HX.out.drewN _)
  have Hd5 := Lib.hid d5
  have qd5 : (s.mem == t.mem) = true := by simpa using d5
  clear d5
  by_cases d6 : s.input = t.input
  rotate_left
  · have hf : false = sameB s t := by simp [sameB, d6]
    have HF := Lib.hid hf
    have qd6 : decide (s.input = t.input) = false := by simpa using d6
    clear hf d6
    go_enter Tryd.func9, Tryd.ntmps9
    go_wp2_with fail
    refine C1.out.mono ?_; rintro e w' ⟨rfl, rfl⟩
    go_wp2_with fail
    refine C3.out.mono ?_; rintro e w' ⟨rfl, n3, rfl⟩
    go_wp2_with fail
    refine (C4.out _).mono ?_; rintro e w' ⟨rfl, n4, rfl⟩
    go_wp2_with (first | (refine wpList_load_mid (by rfl) 26 _ rfl w.heap.size 4 (by rfl) 28 cs1 (0, 0) _ (s.mem.map (Value.int .u16)) (blk1 w cs1 cs2 _) HM.out Tryd.underlying26 rfl (by rw [List.length_map, HL.out]; kernel_rfl) ?_) | (refine wpList_load_mid (by rfl) 26 _ rfl (w.heap.size + 1) 4 (by rfl) 28 cs2 (0, 0) _ (t.mem.map (Value.int .u16)) (blk2 w cs1 cs2 _) HM'.out Tryd.underlying26 rfl (by rw [List.length_map, HL'.out]; kernel_rfl) ?_))
    refine (C6.out _).mono ?_; rintro e w' ⟨rfl, rfl⟩
    go_wp2_with fail
    go_ret
    exact BRet.mk HF.out (HX.out.drewN _)
  have Hd6 := Lib.hid d6
  have qd6 : decide (s.input = t.input) = true := by simpa using d6
  clear d6
  by_cases d7 : s.output = t.output
  rotate_left
  · have hf : false = sameB s t := by simp [sameB, d7]
    have HF := Lib.hid hf
    have qd7 : decide (s.output = t.output) = false := by simpa using d7
    clear hf d7
    go_enter Tryd.func9, Tryd.ntmps9
    go_wp2_with fail
    refine C1.out.mono ?_; rintro e w' ⟨rfl, rfl⟩
    go_wp2_with fail
    refine C3.out.mono ?_; rintro e w' ⟨rfl, n3, rfl⟩
    go_wp2_with fail
    refine (C4.out _).mono ?_; rintro e w' ⟨rfl, n4, rfl⟩
    go_wp2_with (first | (refine wpList_load_mid (by rfl) 26 _ rfl w.heap.size 4 (by rfl) 28 cs1 (0, 0) _ (s.mem.map (Value.int .u16)) (blk1 w cs1 cs2 _) HM.out Tryd.underlying26 rfl (by rw [List.length_map, HL.out]; kernel_rfl) ?_) | (refine wpList_load_mid (by rfl) 26 _ rfl (w.heap.size + 1) 4 (by rfl) 28 cs2 (0, 0) _ (t.mem.map (Value.int .u16)) (blk2 w cs1 cs2 _) HM'.out Tryd.underlying26 rfl (by rw [List.length_map, HL'.out]; kernel_rfl) ?_))
    refine (C6.out _).mono ?_; rintro e w' ⟨rfl, rfl⟩
    go_wp2_with fail
    refine (C7.out _).mono ?_; rintro e w' ⟨rfl, rfl⟩
    go_wp2_with fail
    go_ret
    exact BRet.mk HF.out (HX.out.drewN _)
  have Hd7 := Lib.hid d7
  have qd7 : decide (s.output = t.output) = true := by simpa using d7
  clear d7
  by_cases d8 : s.stop = t.stop
  rotate_left
  · have hf : false = sameB s t := by simp [sameB, d8]
    have HF := Lib.hid hf
    have qd8 : (s.stop == t.stop) = false := by simpa using d8
    clear hf d8
    go_enter Tryd.func9, Tryd.ntmps9
    go_wp2_with fail
    refine C1.out.mono ?_; rintro e w' ⟨rfl, rfl⟩
    go_wp2_with fail
    refine C3.out.mono ?_; rintro e w' ⟨rfl, n3, rfl⟩
    go_wp2_with fail
    refine (C4.out _).mono ?_; rintro e w' ⟨rfl, n4, rfl⟩
    go_wp2_with (first | (refine wpList_load_mid (by rfl) 26 _ rfl w.heap.size 4 (by rfl) 28 cs1 (0, 0) _ (s.mem.map (Value.int .u16)) (blk1 w cs1 cs2 _) HM.out Tryd.underlying26 rfl (by rw [List.length_map, HL.out]; kernel_rfl) ?_) | (refine wpList_load_mid (by rfl) 26 _ rfl (w.heap.size + 1) 4 (by rfl) 28 cs2 (0, 0) _ (t.mem.map (Value.int .u16)) (blk2 w cs1 cs2 _) HM'.out Tryd.underlying26 rfl (by rw [List.length_map, HL'.out]; kernel_rfl) ?_))
    refine (C6.out _).mono ?_; rintro e w' ⟨rfl, rfl⟩
    go_wp2_with fail
    refine (C7.out _).mono ?_; rintro e w' ⟨rfl, rfl⟩
    go_wp2_with fail
    go_ret
    exact BRet.mk HF.out (HX.out.drewN _)
  have Hd8 := Lib.hid d8
  have qd8 : (s.stop == t.stop) = true := by simpa using d8
  clear d8
  have hf : true = sameB s t := by simp [sameB, Hd1.out, Hd2.out, Hd3.out, Hd4.out, Hd5.out, Hd6.out, Hd7.out, Hd8.out]
  have HF := Lib.hid hf
  clear hf
  go_enter Tryd.func9, Tryd.ntmps9
  go_wp2_with fail
  refine C1.out.mono ?_; rintro e w' ⟨rfl, rfl⟩
  go_wp2_with fail
  refine C3.out.mono ?_; rintro e w' ⟨rfl, n3, rfl⟩
  go_wp2_with fail
  refine (C4.out _).mono ?_; rintro e w' ⟨rfl, n4, rfl⟩
  go_wp2_with (first | (refine wpList_load_mid (by rfl) 26 _ rfl w.heap.size 4 (by rfl) 28 cs1 (0, 0) _ (s.mem.map (Value.int .u16)) (blk1 w cs1 cs2 _) HM.out Tryd.underlying26 rfl (by rw [List.length_map, HL.out]; kernel_rfl) ?_) | (refine wpList_load_mid (by rfl) 26 _ rfl (w.heap.size + 1) 4 (by rfl) 28 cs2 (0, 0) _ (t.mem.map (Value.int .u16)) (blk2 w cs1 cs2 _) HM'.out Tryd.underlying26 rfl (by rw [List.length_map, HL'.out]; kernel_rfl) ?_))
  refine (C6.out _).mono ?_; rintro e w' ⟨rfl, rfl⟩
  go_wp2_with fail
  refine (C7.out _).mono ?_; rintro e w' ⟨rfl, rfl⟩
  go_wp2_with fail
  go_ret
  exact BRet.mk HF.out (HX.out.drewN _)
end Go.Proofs.YtpooedfchjpndaaDoor
