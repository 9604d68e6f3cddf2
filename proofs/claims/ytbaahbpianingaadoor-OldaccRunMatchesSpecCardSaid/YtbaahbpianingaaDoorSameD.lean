import Derived.Test.YtbaahbpianingaaDoorSpec1
namespace Go.Proofs.YtbaahbpianingaaDoor
open Go Go.Proofs Go.RowKit
open Acc (Dk red five)
set_option maxHeartbeats 8000000
set_option maxRecDepth 100000
theorem all_range_ints : ∀ (xs ys : List Int), xs.length = ys.length → ((List.range xs.length).all fun i => xs.getD i 0 == ys.getD i 0) = (xs == ys)
  | [], [], _ => by simp
  | x :: xs, y :: ys, h => by
    have ih := all_range_ints xs ys (by simpa using h)
    rw [List.length_cons, List.range_succ_eq_map, List.all_cons, List.all_map]
    simp only [List.getD_cons_zero, List.cons_beq_cons]
    rw [← ih]
    rfl
  | [], _ :: _, h => by simp at h
  | _ :: _, [], h => by simp at h
section
variable {P : Program} (w : World)
theorem run_equalIn_ints (d : Nat) (t e : TypeId) (k : IntKind) (n : Nat) (ht : P.underlying t = some (.array n e)) (he : P.underlying e = some (.int k)) (hsz : ∀ w, (sizeOf e).run P w = .ok 1 w)
    (xs ys : List Int) (hx : xs.length = n) (hy : ys.length = n) :
    (Op.equalIn (d + 2) t (.agg (xs.map (Value.int k)).toArray) (.agg (ys.map (Value.int k)).toArray)).run P w = .ok (xs == ys) w := by
  rw [← all_range_ints xs ys (hx.trans hy.symm), hx, List.range_eq_range', Op.equalIn]
  simp only [Sem.run_bind, run_underlying ht, Result.andThen_ok, hsz, Std.Legacy.Range.forIn_eq_forIn_range', Std.Legacy.Range.size, Nat.sub_zero, Nat.add_sub_cancel, Nat.div_one]
  have hl : ∀ i ∈ List.range' 0 n 1, i < n := fun i hi => by simpa using (List.mem_range'_1.1 hi).2
  generalize List.range' 0 n 1 = l at hl ⊢
  induction l with
  | nil => simp
  | cons i l ih =>
    have hi : i < n := hl i (by simp)
    have px : (part e (xs.map (Value.int k)).toArray (i * 1)).run P w = .ok (.int k (xs.getD i 0)) w := by
      simp [part, isAgg, run_underlying he, List.getD, List.getElem?_eq_getElem (show i < xs.length by omega)]
    have py : (part e (ys.map (Value.int k)).toArray (i * 1)).run P w = .ok (.int k (ys.getD i 0)) w := by
      simp [part, isAgg, run_underlying he, List.getD, List.getElem?_eq_getElem (show i < ys.length by omega)]
    have pe : (Op.equalIn (d + 1) e (.int k (xs.getD i 0)) (.int k (ys.getD i 0))).run P w = .ok (xs.getD i 0 == ys.getD i 0) w := run_equalIn_int w d e k k _ _ he
    simp only [List.forIn_cons, Sem.run_bind, px, py, pe, Result.andThen_ok, List.all_cons]
    cases hb : (xs.getD i 0 == ys.getD i 0)
    · simp
    · simp only [Bool.not_true, Bool.false_eq_true, if_false, Sem.run_pure, Result.andThen_ok, Bool.true_and]
      exact ih fun j hj => hl j (by simp [hj])
theorem run_eql_ints (t e : TypeId) (k : IntKind) (n : Nat) (ht : P.underlying t = some (.array n e)) (he : P.underlying e = some (.int k)) (hsz : ∀ w, (sizeOf e).run P w = .ok 1 w)
    (xs ys : List Int) (hx : xs.length = n) (hy : ys.length = n) :
    (binOp .eql t (.agg (xs.map (Value.int k)).toArray) (.agg (ys.map (Value.int k)).toArray)).run P w = .ok (.bool (xs == ys)) w := by
  rw [run_eql_struct, run_equalIn_ints w 9998 t e k n ht he hsz xs ys hx hy]
  rfl
/-- A row in the middle of a block, loaded whole. -/
theorem run_loadVar_mid (g o : Nat) (t ty : TypeId) (cs : Array Value) (fr : Nat × Nat) (d : TypeDesc) (xs : List Value) (hg : w.heap[g]? = some (.cells cs t fr))
    (hx : ∀ i u, xs[i]? = some u → cs[o + i]? = some u)
    (hu : P.underlying ty = some d) (hd : (match d with | .struct _ | .array _ _ => true | _ => false) = true) (hi : (P.info? ty).map (·.size) = some xs.length) :
    (loadVar ty ⟨g, o, none⟩).run P w = .ok (.agg xs.toArray) w := by
  have hl : (loadCells ⟨g, o, none⟩ xs.length).run P w = .ok xs.toArray w :=
    run_loadCells_list (P := P) w ⟨g, o, none⟩ xs (fun j v hv => by
      have hadd : (⟨g, o, none⟩ : Addr).add j = ⟨g, o + j, none⟩ := by unfold Addr.add; split <;> simp_all
      rw [hadd, cell_of_row w g (o + j) cs t fr hg]
      exact hx j v hv)
  cases hq : P.info? ty with
  | none => simp [hq] at hi
  | some i =>
    have hs : i.size = xs.length := by simpa [hq] using hi
    have hagg : (isAgg ty).run P w = .ok true w := by
      unfold isAgg
      rw [Sem.run_bind, run_underlying hu w]
      cases d <;> simp_all
    simp [loadVar, Sem.run_bind, hagg, sizeOf, typeInfo, hq, hs, hl]
end
theorem wpList_load_mid {P : Program} {w : World} {ops : Array Oper} {rest : List Oper} {o : Oper} {a : Act} {Q : Exit → Act → World → Prop} (hw : Region.wanted o (yielded ops a.tmps) = true) (ty : TypeId) (x : Operand) (ho : o.op = .load ty x)
    (g f : Nat) (hx : a.eval x = .pointer (some ⟨g, f, none⟩)) (t : TypeId) (cs : Array Value) (fr : Nat × Nat) (d : TypeDesc) (xs : List Value) (hg : w.heap[g]? = some (.cells cs t fr)) (hxs : ∀ i u, xs[i]? = some u → cs[f + i]? = some u)
    (hu : P.underlying ty = some d) (hd : (match d with | .struct _ | .array _ _ => true | _ => false) = true) (hi : (P.info? ty).map (·.size) = some xs.length)
    (h : wpList P ops Q rest (a.put o.dst (.agg xs.toArray)) w) : wpList P ops Q (o :: rest) a w := by
  refine wpList_step fun K hK => ?_
  rw [if_pos hw]
  unfold Oper.wp execOp
  simp only [ho, hx, Instr.loadAt, Instr.sureAddr, Sem.run_bind, Sem.run_pure, Result.andThen_ok, run_loadVar_mid w g f t ty cs fr d xs hg hxs hu hd hi]
  exact hK _ _ h
def sameB (s t : Dk) : Bool := decide (s.words = t.words) && decide (s.at_ = t.at_) && decide (s.a = t.a) && decide (s.q = t.q) && decide (s.x = t.x) && decide (s.ov = t.ov) && decide (s.input = t.input) && decide (s.output = t.output) && decide (s.stop = t.stop)
theorem sameB_iff (s t : Dk) : sameB s t = true ↔ s = t := by
  cases s; cases t; simp [sameB, and_assoc]
theorem BRet.mk {w w' : World} {a b : Bool} (h : a = b) (x : Ext w w') : BRet w b (.returned (.bool a)) w' := ⟨by rw [h], x⟩
theorem size3 (w : World) : (sizeOf 3).run Tryd.prog w = .ok 1 w := by kernel_rfl
theorem words_cells {w : World} {cs : Array Value} {s : Dk} (h : DkIs w cs s) : ∀ i u, (s.words.map (Value.int .i64))[i]? = some u → cs[0 + i]? = some u := by
  intro i u hu
  have hl := h.wf.len
  rw [Nat.zero_add]
  rw [List.getElem?_map] at hu
  cases hx : s.words[i]? with
  | none => rw [hx] at hu; cases hu
  | some x =>
    rw [hx] at hu
    cases hu
    obtain ⟨hi, _⟩ := List.getElem?_eq_some_iff.1 hx
    rw [h.words i (by omega), hx]
    rfl
theorem blk1 (w : World) (cs1 cs2 : Array Value) : ((w.alloc (.cells cs1 25)).alloc (.cells cs2 25)).heap[w.heap.size]? = some (.cells cs1 25 (0, 0)) := heap_alloc2_old w _ _
theorem blk2 (w : World) (cs1 cs2 : Array Value) : ((w.alloc (.cells cs1 25)).alloc (.cells cs2 25)).heap[w.heap.size + 1]? = some (.cells cs2 25 (0, 0)) := heap_alloc2_new w _ _
theorem same_c (cs1 cs2 : Array Value) (s t : Dk) (w : World) (h : DkIs w cs1 s) (h' : DkIs w cs2 t) : Calls Tryd.prog 15 #[.agg cs1, .agg cs2] w (BRet w (sameB s t)) := by
  have hx : Ext w ((w.alloc (.cells cs1 25)).alloc (.cells cs2 25)) := ((Ext.refl w).alloc _).alloc _
  obtain ⟨A6, c6, eA6, -, -, -, sA6⟩ := h.input
  obtain ⟨A6', c6', eA6', -, -, -, sA6'⟩ := h'.input
  obtain ⟨A7, c7, eA7, -, -, -, sA7⟩ := h.output
  obtain ⟨A7', c7', eA7', -, -, -, sA7'⟩ := h'.output
  have eat_ := h.at_
  have eat_' := h'.at_
  have ea := h.a
  have ea' := h'.a
  have eq := h.q
  have eq' := h'.q
  have ex := h.x
  have ex' := h'.x
  have eov := h.ov
  have eov' := h'.ov
  have estop := h.stop
  have estop' := h'.stop
  have C6 := Lib.hid (SameBytes_c A6 A6' s.input t.input c6 c6' ((w.alloc (.cells cs1 25)).alloc (.cells cs2 25)) (sA6.ext hx) (sA6'.ext hx) h.wf.input h'.wf.input)
  have C7 := Lib.hid (SameBytes_c A7 A7' s.output t.output c7 c7' ((w.alloc (.cells cs1 25)).alloc (.cells cs2 25)) (sA7.ext hx) (sA7'.ext hx) h.wf.output h'.wf.output)
  have HM := Lib.hid (words_cells h)
  have HM' := Lib.hid (words_cells h')
  have q22 : ∀ W : World, (Op.equalIn 10000 22 (.agg (s.words.map (Value.int .i64)).toArray) (.agg (t.words.map (Value.int .i64)).toArray)).run Tryd.prog W = .ok (s.words == t.words) W := fun W => run_equalIn_ints W 9998 22 3 .i64 100 Tryd.underlying22 Tryd.underlying3 (fun w => size3 w) s.words t.words h.wf.len h'.wf.len
  have HL := Lib.hid h.wf.len
  have HL' := Lib.hid h'.wf.len
  have HX := Lib.hid hx
  clear h h' hx sA6 sA6' sA7 sA7'
  by_cases d1 : s.words = t.words
  rotate_left
  · have hf : false = sameB s t := by simp [sameB, d1]
    have HF := Lib.hid hf
    have qd1 : (s.words == t.words) = false := by simpa using d1
    clear hf d1
    go_enter Tryd.func15, Tryd.ntmps15
    go_wp2_with (first | (refine wpList_load_mid (by rfl) 22 _ rfl w.heap.size 0 (by rfl) 25 cs1 (0, 0) _ (s.words.map (Value.int .i64)) (blk1 w cs1 cs2) HM.out Tryd.underlying22 rfl (by rw [List.length_map, HL.out]; kernel_rfl) ?_) | (refine wpList_load_mid (by rfl) 22 _ rfl (w.heap.size + 1) 0 (by rfl) 25 cs2 (0, 0) _ (t.words.map (Value.int .i64)) (blk2 w cs1 cs2) HM'.out Tryd.underlying22 rfl (by rw [List.length_map, HL'.out]; kernel_rfl) ?_))
    go_ret
    exact BRet.mk HF.out HX.out
  have Hd1 := Lib.hid d1
  have qd1 : (s.words == t.words) = true := by simpa using d1
  clear d1
  by_cases d2 : s.at_ = t.at_
  rotate_left
  · have hf : false = sameB s t := by simp [sameB, d2]
    have HF := Lib.hid hf
    have qd2 : (s.at_ == t.at_) = false := by simpa using d2
    clear hf d2
    go_enter Tryd.func15, Tryd.ntmps15
    go_wp2_with (first | (refine wpList_load_mid (by rfl) 22 _ rfl w.heap.size 0 (by rfl) 25 cs1 (0, 0) _ (s.words.map (Value.int .i64)) (blk1 w cs1 cs2) HM.out Tryd.underlying22 rfl (by rw [List.length_map, HL.out]; kernel_rfl) ?_) | (refine wpList_load_mid (by rfl) 22 _ rfl (w.heap.size + 1) 0 (by rfl) 25 cs2 (0, 0) _ (t.words.map (Value.int .i64)) (blk2 w cs1 cs2) HM'.out Tryd.underlying22 rfl (by rw [List.length_map, HL'.out]; kernel_rfl) ?_))
    go_ret
    exact BRet.mk HF.out HX.out
  have Hd2 := Lib.hid d2
  have qd2 : (s.at_ == t.at_) = true := by simpa using d2
  clear d2
  by_cases d3 : s.a = t.a
  rotate_left
  · have hf : false = sameB s t := by simp [sameB, d3]
    have HF := Lib.hid hf
    have qd3 : (s.a == t.a) = false := by simpa using d3
    clear hf d3
    go_enter Tryd.func15, Tryd.ntmps15
    go_wp2_with (first | (refine wpList_load_mid (by rfl) 22 _ rfl w.heap.size 0 (by rfl) 25 cs1 (0, 0) _ (s.words.map (Value.int .i64)) (blk1 w cs1 cs2) HM.out Tryd.underlying22 rfl (by rw [List.length_map, HL.out]; kernel_rfl) ?_) | (refine wpList_load_mid (by rfl) 22 _ rfl (w.heap.size + 1) 0 (by rfl) 25 cs2 (0, 0) _ (t.words.map (Value.int .i64)) (blk2 w cs1 cs2) HM'.out Tryd.underlying22 rfl (by rw [List.length_map, HL'.out]; kernel_rfl) ?_))
    go_ret
    exact BRet.mk HF.out HX.out
  have Hd3 := Lib.hid d3
  have qd3 : (s.a == t.a) = true := by simpa using d3
  clear d3
  by_cases d4 : s.q = t.q
  rotate_left
  · have hf : false = sameB s t := by simp [sameB, d4]
    have HF := Lib.hid hf
    have qd4 : (s.q == t.q) = false := by simpa using d4
    clear hf d4
    go_enter Tryd.func15, Tryd.ntmps15
    go_wp2_with (first | (refine wpList_load_mid (by rfl) 22 _ rfl w.heap.size 0 (by rfl) 25 cs1 (0, 0) _ (s.words.map (Value.int .i64)) (blk1 w cs1 cs2) HM.out Tryd.underlying22 rfl (by rw [List.length_map, HL.out]; kernel_rfl) ?_) | (refine wpList_load_mid (by rfl) 22 _ rfl (w.heap.size + 1) 0 (by rfl) 25 cs2 (0, 0) _ (t.words.map (Value.int .i64)) (blk2 w cs1 cs2) HM'.out Tryd.underlying22 rfl (by rw [List.length_map, HL'.out]; kernel_rfl) ?_))
    go_ret
    exact BRet.mk HF.out HX.out
  have Hd4 := Lib.hid d4
  have qd4 : (s.q == t.q) = true := by simpa using d4
  clear d4
  by_cases d5 : s.x = t.x
  rotate_left
  · have hf : false = sameB s t := by simp [sameB, d5]
    have HF := Lib.hid hf
    have qd5 : (s.x == t.x) = false := by simpa using d5
    clear hf d5
    go_enter Tryd.func15, Tryd.ntmps15
    go_wp2_with (first | (refine wpList_load_mid (by rfl) 22 _ rfl w.heap.size 0 (by rfl) 25 cs1 (0, 0) _ (s.words.map (Value.int .i64)) (blk1 w cs1 cs2) HM.out Tryd.underlying22 rfl (by rw [List.length_map, HL.out]; kernel_rfl) ?_) | (refine wpList_load_mid (by rfl) 22 _ rfl (w.heap.size + 1) 0 (by rfl) 25 cs2 (0, 0) _ (t.words.map (Value.int .i64)) (blk2 w cs1 cs2) HM'.out Tryd.underlying22 rfl (by rw [List.length_map, HL'.out]; kernel_rfl) ?_))
    go_ret
    exact BRet.mk HF.out HX.out
  have Hd5 := Lib.hid d5
  have qd5 : (s.x == t.x) = true := by simpa using d5
  clear d5
  by_cases d6 : s.ov = t.ov
  rotate_left
  · have hf : false = sameB s t := by simp [sameB, d6]
    have HF := Lib.hid hf
    have qd6 : (s.ov == t.ov) = false := by simpa using d6
    clear hf d6
    go_enter Tryd.func15, Tryd.ntmps15
    go_wp2_with (first | (refine wpList_load_mid (by rfl) 22 _ rfl w.heap.size 0 (by rfl) 25 cs1 (0, 0) _ (s.words.map (Value.int .i64)) (blk1 w cs1 cs2) HM.out Tryd.underlying22 rfl (by rw [List.length_map, HL.out]; kernel_rfl) ?_) | (refine wpList_load_mid (by rfl) 22 _ rfl (w.heap.size + 1) 0 (by rfl) 25 cs2 (0, 0) _ (t.words.map (Value.int .i64)) (blk2 w cs1 cs2) HM'.out Tryd.underlying22 rfl (by rw [List.length_map, HL'.out]; kernel_rfl) ?_))
    go_ret
    exact BRet.mk HF.out HX.out
  have Hd6 := Lib.hid d6
  have qd6 : (s.ov == t.ov) = true := by simpa using d6
  clear d6
  by_cases d7 : s.input = t.input
  rotate_left
  · have hf : false = sameB s t := by simp [sameB, d7]
    have HF := Lib.hid hf
    have qd7 : decide (s.input = t.input) = false := by simpa using d7
    clear hf d7
    go_enter Tryd.func15, Tryd.ntmps15
    go_wp2_with (first | (refine wpList_load_mid (by rfl) 22 _ rfl w.heap.size 0 (by rfl) 25 cs1 (0, 0) _ (s.words.map (Value.int .i64)) (blk1 w cs1 cs2) HM.out Tryd.underlying22 rfl (by rw [List.length_map, HL.out]; kernel_rfl) ?_) | (refine wpList_load_mid (by rfl) 22 _ rfl (w.heap.size + 1) 0 (by rfl) 25 cs2 (0, 0) _ (t.words.map (Value.int .i64)) (blk2 w cs1 cs2) HM'.out Tryd.underlying22 rfl (by rw [List.length_map, HL'.out]; kernel_rfl) ?_))
    refine C6.out.mono ?_; rintro e w' ⟨rfl, rfl⟩
    go_wp2_with fail
    go_ret
    exact BRet.mk HF.out HX.out
  have Hd7 := Lib.hid d7
  have qd7 : decide (s.input = t.input) = true := by simpa using d7
  clear d7
  by_cases d8 : s.output = t.output
  rotate_left
  · have hf : false = sameB s t := by simp [sameB, d8]
    have HF := Lib.hid hf
    have qd8 : decide (s.output = t.output) = false := by simpa using d8
    clear hf d8
    go_enter Tryd.func15, Tryd.ntmps15
    go_wp2_with (first | (refine wpList_load_mid (by rfl) 22 _ rfl w.heap.size 0 (by rfl) 25 cs1 (0, 0) _ (s.words.map (Value.int .i64)) (blk1 w cs1 cs2) HM.out Tryd.underlying22 rfl (by rw [List.length_map, HL.out]; kernel_rfl) ?_) | (refine wpList_load_mid (by rfl) 22 _ rfl (w.heap.size + 1) 0 (by rfl) 25 cs2 (0, 0) _ (t.words.map (Value.int .i64)) (blk2 w cs1 cs2) HM'.out Tryd.underlying22 rfl (by rw [List.length_map, HL'.out]; kernel_rfl) ?_))
    refine C6.out.mono ?_; rintro e w' ⟨rfl, rfl⟩
    go_wp2_with fail
    refine C7.out.mono ?_; rintro e w' ⟨rfl, rfl⟩
    go_wp2_with fail
    go_ret
    exact BRet.mk HF.out HX.out
  have Hd8 := Lib.hid d8
  have qd8 : decide (s.output = t.output) = true := by simpa using d8
  clear d8
  by_cases d9 : s.stop = t.stop
  rotate_left
  · have hf : false = sameB s t := by simp [sameB, d9]
    have HF := Lib.hid hf
    have qd9 : (s.stop == t.stop) = false := by simpa using d9
    clear hf d9
    go_enter Tryd.func15, Tryd.ntmps15
    go_wp2_with (first | (refine wpList_load_mid (by rfl) 22 _ rfl w.heap.size 0 (by rfl) 25 cs1 (0, 0) _ (s.words.map (Value.int .i64)) (blk1 w cs1 cs2) HM.out Tryd.underlying22 rfl (by rw [List.length_map, HL.out]; kernel_rfl) ?_) | (refine wpList_load_mid (by rfl) 22 _ rfl (w.heap.size + 1) 0 (by rfl) 25 cs2 (0, 0) _ (t.words.map (Value.int .i64)) (blk2 w cs1 cs2) HM'.out Tryd.underlying22 rfl (by rw [List.length_map, HL'.out]; kernel_rfl) ?_))
    refine C6.out.mono ?_; rintro e w' ⟨rfl, rfl⟩
    go_wp2_with fail
    refine C7.out.mono ?_; rintro e w' ⟨rfl, rfl⟩
    go_wp2_with fail
    go_ret
    exact BRet.mk HF.out HX.out
  have Hd9 := Lib.hid d9
  have qd9 : (s.stop == t.stop) = true := by simpa using d9
  clear d9
  have hf : true = sameB s t := by simp [sameB, Hd1.out, Hd2.out, Hd3.out, Hd4.out, Hd5.out, Hd6.out, Hd7.out, Hd8.out, Hd9.out]
  have HF := Lib.hid hf
  clear hf
  go_enter Tryd.func15, Tryd.ntmps15
  go_wp2_with (first | (refine wpList_load_mid (by rfl) 22 _ rfl w.heap.size 0 (by rfl) 25 cs1 (0, 0) _ (s.words.map (Value.int .i64)) (blk1 w cs1 cs2) HM.out Tryd.underlying22 rfl (by rw [List.length_map, HL.out]; kernel_rfl) ?_) | (refine wpList_load_mid (by rfl) 22 _ rfl (w.heap.size + 1) 0 (by rfl) 25 cs2 (0, 0) _ (t.words.map (Value.int .i64)) (blk2 w cs1 cs2) HM'.out Tryd.underlying22 rfl (by rw [List.length_map, HL'.out]; kernel_rfl) ?_))
  refine C6.out.mono ?_; rintro e w' ⟨rfl, rfl⟩
  go_wp2_with fail
  refine C7.out.mono ?_; rintro e w' ⟨rfl, rfl⟩
  go_wp2_with fail
  go_ret
  exact BRet.mk HF.out HX.out
end Go.Proofs.YtbaahbpianingaaDoor
