import Derived.Test.YtbaahbpianingaaGreatDoorMg22
namespace Go.Proofs.YtbaahbpianingaaGreatDoor
open Go Go.Proofs Go.RowKit
open Tape (Rule Ts)
set_option maxHeartbeats 12800000
set_option maxRecDepth 100000
def mirV (v0 v1 : Value) (a b c : Int) : Array Value := #[v0, v1, .int .i64 a, .int .i64 b, .int .i64 c]
/-- In the course of Mirrored: the state's variable, the result's, and the one that is filled. -/
structure Mir (w wx : World) (cs : Array Value) (g : Nat) (R : List Rule) (C : List Int) (v0 v1 : Value) (a b c : Int) : Prop where
  b1 : wx.heap[w.heap.size]? = some (.cells cs 25 (0, 0))
  b2 : wx.heap[w.heap.size + 1]? = some (.cells zeroTs 25 (0, 0))
  b3 : wx.heap[g]? = some (.cells (mirV v0 v1 a b c) 25 (0, 0))
  hg : w.heap.size + 1 < g
  own0 : wx.ownsRow (w.heap.size + 2) 54 5 v0 R.length (rulesV R)
  own1 : wx.ownsRow (w.heap.size + 2) 3 1 v1 C.length (C.map (Value.int .i64))
  x : Ext w wx
section
variable {w W W2 : World} {cs : Array Value} {g : Nat} {R : List Rule} {C : List Int} {v0 v1 v' : Value} {a b c : Int}
theorem Mir.ext (h : Mir w W cs g R C v0 v1 a b c) (e : Ext W W2) : Mir w W2 cs g R C v0 v1 a b c :=
  ⟨ext_heap e h.b1, ext_heap e h.b2, ext_heap e h.b3, h.hg, town_ext h.own0 e, town_ext h.own1 e, h.x.trans e⟩
theorem Mir.lt (h : Mir w W cs g R C v0 v1 a b c) : g < W.heap.size := (Array.getElem?_eq_some_iff.1 h.b3).1
theorem row_ext {row : Option Nat} (hx : Ext w W) (hg : W.grownBy W2 row) (hr : ∀ k, row = some k → w.heap.size + 2 ≤ k) : Ext w W2 := ext_grown hx hg (fun k hk => by have := hr k hk; omega)
theorem low_cell {row : Option Nat} (hs : w.heap.size + 1 < W.heap.size) (hg : W.grownBy W2 row) (hr : ∀ k, row = some k → w.heap.size + 2 ≤ k) : ∀ d, d ≤ w.heap.size → ∀ i, W2.cell? ⟨d, i, none⟩ = W.cell? ⟨d, i, none⟩ := by
  intro d hd i
  exact World.cell?_of_block (w := W) (hg.block d (by omega) (fun e => by have := hr d e.symm; omega))
theorem Mir.appC (h : Mir w W cs g R C v0 v1 a b c) {x : Int} (ho : W2.ownsRow (w.heap.size + 2) 3 1 v' (C.length + 1) (C.map (Value.int .i64) ++ [.int .i64 x])) (hg : W.grownBy W2 v1.ownBlock) :
    ∃ A' c', v' = .slice A' (C.length + 1) c' ∧ (∀ d, d ≤ w.heap.size → ∀ i, W2.cell? ⟨d, i, none⟩ = W.cell? ⟨d, i, none⟩) ∧ W2.cell? ⟨g, 1, none⟩ = some v1 ∧ W2.frozen? ⟨g, 1, none⟩ = false ∧ g < W2.heap.size ∧ Mir w (W2.setCell ⟨g, 1, none⟩ (.slice A' (C.length + 1) c')) cs g R (C ++ [x]) v0 (.slice A' (C.length + 1) c') a b c := by
  obtain ⟨A', c', rfl, -, -, -, -⟩ := own_sl5 ho
  have hlt := h.lt
  have hgg := h.hg
  have hr : ∀ k, v1.ownBlock = some k → w.heap.size + 2 ≤ k := fun k hk => (own_lt h.own1 hk).1
  have e3 : W2.heap[g]? = some (.cells (mirV v0 v1 a b c) 25 (0, 0)) := (hg.block g hlt (fun e => own_ne h.own1 h.b3 (by decide) e.symm)).trans h.b3
  have e1 : W2.heap[w.heap.size]? = some (.cells cs 25 (0, 0)) := (hg.block _ (by omega) (fun e => by have := hr _ e.symm; omega)).trans h.b1
  have e2 : W2.heap[w.heap.size + 1]? = some (.cells zeroTs 25 (0, 0)) := (hg.block _ (by omega) (fun e => by have := hr _ e.symm; omega)).trans h.b2
  have hx := row_ext h.x hg hr
  have o0 : W2.ownsRow (w.heap.size + 2) 54 5 v0 R.length (rulesV R) := own_keep h.own0 (fun k hk => hg.block k (own_lt h.own0 hk).2 (fun e => own_two h.own0 h.own1 (by decide) k hk e.symm))
  refine ⟨A', c', rfl, low_cell (by omega) hg hr, blk_cell e3 1, blk_frozen e3 1, (Array.getElem?_eq_some_iff.1 e3).1, ?_, ?_, ?_, hgg, ?_, ?_, hx.setCell (p := ⟨g, 1, none⟩) (by show w.heap.size ≤ g; omega) _⟩
  · rw [Below.heap_setCell _ _ _ _ (by show w.heap.size ≠ g; omega)]; exact e1
  · rw [Below.heap_setCell _ _ _ _ (by show w.heap.size + 1 ≠ g; omega)]; exact e2
  · exact heap_set_self e3 1 _
  · exact own_keep o0 (fun k hk => Below.heap_setCell _ _ _ _ (fun e => own_ne o0 e3 (by decide) (by rw [hk, e])))
  · rw [List.length_append, List.map_append]
    exact own_keep ho (fun k hk => Below.heap_setCell _ _ _ _ (fun e => own_ne ho e3 (by decide) (by rw [hk, e])))
theorem Mir.appR (h : Mir w W cs g R C v0 v1 a b c) {r : Rule} (ho : W2.ownsRow (w.heap.size + 2) 54 5 v' (R.length + 1) (rulesV R ++ ruleV r)) (hg : W.grownBy W2 v0.ownBlock) :
    ∃ A' c', v' = .slice A' (R.length + 1) c' ∧ (∀ d, d ≤ w.heap.size → ∀ i, W2.cell? ⟨d, i, none⟩ = W.cell? ⟨d, i, none⟩) ∧ W2.cell? ⟨g, 0, none⟩ = some v0 ∧ W2.frozen? ⟨g, 0, none⟩ = false ∧ g < W2.heap.size ∧ Mir w (W2.setCell ⟨g, 0, none⟩ (.slice A' (R.length + 1) c')) cs g (R ++ [r]) C (.slice A' (R.length + 1) c') v1 a b c := by
  obtain ⟨A', c', rfl, -, -, -, -⟩ := own_sl5 ho
  have hlt := h.lt
  have hgg := h.hg
  have hr : ∀ k, v0.ownBlock = some k → w.heap.size + 2 ≤ k := fun k hk => (own_lt h.own0 hk).1
  have e3 : W2.heap[g]? = some (.cells (mirV v0 v1 a b c) 25 (0, 0)) := (hg.block g hlt (fun e => own_ne h.own0 h.b3 (by decide) e.symm)).trans h.b3
  have e1 : W2.heap[w.heap.size]? = some (.cells cs 25 (0, 0)) := (hg.block _ (by omega) (fun e => by have := hr _ e.symm; omega)).trans h.b1
  have e2 : W2.heap[w.heap.size + 1]? = some (.cells zeroTs 25 (0, 0)) := (hg.block _ (by omega) (fun e => by have := hr _ e.symm; omega)).trans h.b2
  have hx := row_ext h.x hg hr
  have o1 : W2.ownsRow (w.heap.size + 2) 3 1 v1 C.length (C.map (Value.int .i64)) := own_keep h.own1 (fun k hk => hg.block k (own_lt h.own1 hk).2 (fun e => own_two h.own0 h.own1 (by decide) k e.symm hk))
  refine ⟨A', c', rfl, low_cell (by omega) hg hr, blk_cell e3 0, blk_frozen e3 0, (Array.getElem?_eq_some_iff.1 e3).1, ?_, ?_, ?_, hgg, ?_, ?_, hx.setCell (p := ⟨g, 0, none⟩) (by show w.heap.size ≤ g; omega) _⟩
  · rw [Below.heap_setCell _ _ _ _ (by show w.heap.size ≠ g; omega)]; exact e1
  · rw [Below.heap_setCell _ _ _ _ (by show w.heap.size + 1 ≠ g; omega)]; exact e2
  · exact heap_set_self e3 0 _
  · rw [List.length_append, rulesV_snoc]
    exact own_keep ho (fun k hk => Below.heap_setCell _ _ _ _ (fun e => own_ne ho e3 (by decide) (by rw [hk, e])))
  · exact own_keep o1 (fun k hk => Below.heap_setCell _ _ _ _ (fun e => own_ne o1 e3 (by decide) (by rw [hk, e])))
theorem Mir.is (h : Mir w W cs g R C v0 v1 a b c) (hw : TsWf ⟨R, C, a, b, c⟩) (W3 : World) (hk : ∀ d, w.heap.size + 2 ≤ d → d < W.heap.size → W3.heap[d]? = W.heap[d]?) : TsIs W3 (mirV v0 v1 a b c) ⟨R, C, a, b, c⟩ := by
  obtain ⟨A0, c0, e0, p1, p2, p3, p4⟩ := own_sl5 (own_keep (w' := W3) h.own0 fun k hk' => hk k (own_lt h.own0 hk').1 (own_lt h.own0 hk').2)
  refine ⟨rfl, ⟨A0, c0, by rw [← e0]; rfl, p1, p2, p3, p4⟩, ?_, rfl, rfl, rfl, hw⟩
  exact own_at h.own1 fun k hk' => hk k (own_lt h.own1 hk').1 (own_lt h.own1 hk').2
theorem mirV_one {w1 w2 : World} {b1 b2 n1 n2 : Nat} {xs ys : List Value} (h0 : w1.ownsRow b1 54 5 v0 n1 xs) (h1 : w2.ownsRow b2 3 1 v1 n2 ys) : (mirV v0 v1 a b c).all (·.oneCell') = true := by
  obtain ⟨A0, c0, rfl, -, -, -, -⟩ := own_sl5 h0
  obtain ⟨A1, c1, rfl, -, -, -, -⟩ := own_sl5 h1
  kernel_rfl
end
theorem Mir.low {w W : World} {cs : Array Value} {g gr i : Nat} {R : List Rule} {C : List Int} {v0 v1 u : Value} {a b c : Int} {xs : Array Value} (h : Mir w W cs g R C v0 v1 a b c) (hg : g < gr) (hr : W.heap[gr]? = some (.cells xs 54 (0, 0))) (h0 : v0.ownBlock ≠ some gr) : Mir w (W.setCell ⟨gr, i, none⟩ u) cs g R C v0 v1 a b c := by
  have hgg := h.hg
  refine ⟨?_, ?_, ?_, hgg, ?_, ?_, h.x.setCell (p := ⟨gr, i, none⟩) (by show w.heap.size ≤ gr; omega) _⟩
  · rw [Below.heap_setCell _ _ _ _ (by show w.heap.size ≠ gr; omega)]; exact h.b1
  · rw [Below.heap_setCell _ _ _ _ (by show w.heap.size + 1 ≠ gr; omega)]; exact h.b2
  · rw [Below.heap_setCell _ _ _ _ (by show g ≠ gr; omega)]; exact h.b3
  · exact own_keep h.own0 (fun k hk => Below.heap_setCell _ _ _ _ (fun e => h0 (by rw [hk, e])))
  · exact own_keep h.own1 (fun k hk => Below.heap_setCell _ _ _ _ (fun e => own_ne h.own1 hr (by decide) (by rw [hk, e])))
theorem run_build_mr (a b c : Int) (w : World) : (Instr.build 25 #[(2, .int .i64 a), (3, .int .i64 b), (4, .int .i64 c)]).run Tryz.prog w = .ok (.agg (mirV (.slice none 0 0) (.slice none 0 0) a b c)) w := by kernel_rfl
theorem wpList_build_mr {w : World} {ops : Array Oper} {rest : List Oper} {o : Oper} {a : Act} {Q : Exit → Act → World → Prop} (hgd : o.guard = none) (x y z : Operand) (ho : o.op = .build 25 #[(2, x), (3, y), (4, z)]) (i j k : Int) (hx : a.eval x = .int .i64 i) (hy : a.eval y = .int .i64 j) (hz : a.eval z = .int .i64 k)
    (h : wpList Tryz.prog ops Q rest (a.put o.dst (.agg (mirV (.slice none 0 0) (.slice none 0 0) i j k))) w) : wpList Tryz.prog ops Q (o :: rest) a w := by
  refine wpList_plain hgd fun K hK => ?_
  unfold Oper.wp execOp
  simp only [ho, List.map_toArray, List.map_cons, List.map_nil, hx, hy, hz, Sem.run_bind, run_build_mr, Sem.run_pure, Result.andThen_ok]
  exact hK _ _ h
theorem mirror_eq (s : Ts) : Tape.mirror s = ⟨s.rules.map Tape.turn, s.cells.reverse, (s.cells.length : Int) - 1 - s.at_, s.state, s.stop⟩ := rfl
theorem mirrored_c (cs : Array Value) (s : Ts) (w : World) (h : TsIs w cs s) (hok : Tape.Ok s) (hrl : s.rules.length ≤ 64) : Calls Tryz.prog 16 #[.agg cs] w (StdRet w (Tape.mirror s)) := by
  have HMW := Lib.hid (mirror_wf hok)
  have HRB : Hid (s.rules.length ≤ 64) := Lib.hid hrl
  have hlen := hok.len
  have hat := hok.at_
  have HRF : Hid (∀ r ∈ s.rules, RuleFits r) := Lib.hid (fun r hr => rule_fits (hok.rules r hr))
  obtain ⟨A0, c0, e0, l0, m0, -, s0⟩ := h.rules
  obtain ⟨A1, c1, e1, l1, m1, -, s1⟩ := h.cells
  have e2 := h.at_
  have e3 := h.state
  have e4 := h.stop
  have HE0 : Hid (Rls w A0 s.rules) := Lib.hid s0
  have HE1 := Lib.hid s1
  have HXI := Lib.hid h
  obtain ⟨n, hn⟩ : ∃ n, n = s.rules.length := ⟨_, rfl⟩
  obtain ⟨m, hm⟩ : ∃ m, m = s.cells.length := ⟨_, rfl⟩
  have HN := Lib.hid hn
  have HM := Lib.hid hm
  rw [← hn] at e0 l0
  rw [← hm] at e1 l1
  have hnl := Nat.le_trans l0 m0
  unfold maxLen at hnl
  obtain ⟨a, ha⟩ : ∃ a, a = (m : Int) - 1 - s.at_ := ⟨_, rfl⟩
  have HA : Hid ((s.cells.length : Int) - 1 - s.at_ = a) := Lib.hid (by rw [ha, hm])
  have hmb : 1 ≤ m ∧ m ≤ 200 := by omega
  have w1 : IntKind.i64.wrap ((m : Int) - 1) = (m : Int) - 1 := IntWalk.i64_in _ (by omega)
  have w2 : IntKind.i64.wrap ((m : Int) - 1 - s.at_) = a := by rw [ha]; exact IntWalk.i64_in _ (by omega)
  obtain ⟨st, hst⟩ : ∃ st, st = s.state := ⟨_, rfl⟩
  obtain ⟨sp, hsp⟩ : ∃ sp, sp = s.stop := ⟨_, rfl⟩
  have HSS : Hid (st = s.state ∧ sp = s.stop) := Lib.hid ⟨hst, hsp⟩
  rw [← hst] at e3
  rw [← hsp] at e4
  clear h hok hrl hlen hat s0 s1 l0 l1 m0 m1 hn hm ha hst hsp
  go_enter Tryz.func16, Tryz.ntmps16
  go_upto_region 0 with (fail)
  go_cut [1, 2] (fun s1 s2 wx => s1 = .pointer (some ⟨w.heap.size, 0, none⟩) ∧ s2 = .pointer (some ⟨w.heap.size + 1, 0, none⟩) ∧ TBox w wx cs)
  case first =>
    go_wp2_with (refine wpList_allocQ rfl rfl ?_)
    go_meet
    exact ⟨rfl, by simp, TBox.mk0 w cs⟩
  obtain ⟨rfl, rfl, ht⟩ := hcut
  obtain ⟨wa, rfl⟩ : ∃ wa : World, wa = wc := ⟨_, rfl⟩
  have HT := Lib.hid ht
  have k1 : wa.cell? ⟨w.heap.size, 1, none⟩ = some (.slice A1 m c1) := (ht.cell 1).trans e1
  have k2 : wa.cell? ⟨w.heap.size, 2, none⟩ = some (.int .i64 s.at_) := (ht.cell 2).trans e2
  have k3 : wa.cell? ⟨w.heap.size, 3, none⟩ = some (.int .i64 st) := (ht.cell 3).trans e3
  have k4 : wa.cell? ⟨w.heap.size, 4, none⟩ = some (.int .i64 sp) := (ht.cell 4).trans e4
  clear ht
  go_upto_region 1 with (fail)
  go_cut [3] (fun s3 wx => s3 = .pointer (some ⟨wa.heap.size, 0, none⟩) ∧ Mir w wx cs wa.heap.size [] [] (.slice none 0 0) (.slice none 0 0) a st sp)
  case first =>
    have HZ := Lib.hid (heap_alloc_new wa (.cells zeroTs 25))
    have hlt := HT.out.lt
    go_wp2_with (first | refine wpList_build_mr rfl _ _ _ rfl a st sp (by first | rfl | exact congrArg (Value.int .i64) w2) rfl rfl ?_ | refine wpList_allocQ rfl rfl ?_ | refine wpList_store_row rfl 25 _ _ rfl wa.heap.size (mirV (.slice none 0 0) (.slice none 0 0) a st sp) rfl rfl 25 zeroTs HZ.out sizeQ rfl (by kernel_rfl) ?_)
    go_meet
    have hx := ((Ext.refl wa).alloc (.cells zeroTs 25)).setRow (Nat.le_refl _) (mirV (.slice none 0 0) (.slice none 0 0) a st sp)
    exact ⟨rfl, ext_heap hx HT.out.b1, ext_heap hx HT.out.b2, setRow_heap _ _ _ _ _ _ HZ.out, hlt, World.ownsRow_nil _ _ _ _, World.ownsRow_nil _ _ _ _, HT.out.x.trans hx⟩
  obtain ⟨rfl, hmi⟩ := hcut
  obtain ⟨g, hg⟩ : ∃ g, wa.heap.size = g := ⟨_, rfl⟩
  rw [hg] at hmi ⊢
  obtain ⟨wb, rfl⟩ : ∃ wb : World, wb = wc := ⟨_, rfl⟩
  have HMI := Lib.hid hmi
  obtain ⟨i0, hi, hz0, hz1, hz2⟩ := info_parts infoI
  have HI := Lib.hid hi
  have HZ0 := Lib.hid hz0
  have HZ1 := Lib.hid hz1
  have HZ2 := Lib.hid hz2
  have k1 : wb.cell? ⟨w.heap.size, 1, none⟩ = some (.slice A1 m c1) := (blk_cell hmi.b1 1).trans e1
  clear hmi hg k2 k3 k4 w2 hi hz0 hz1 hz2
  go_wp2_with fail
  clear k1
  go_loopw [4] (fun t4 wx => ∃ k : Nat, ∃ v1, k ≤ m ∧ t4 = .int .i64 ((m : Int) - 1 - k) ∧ Mir w wx cs g [] (s.cells.reverse.take k) (.slice none 0 0) v1 a st sp) (fun t4 _ => ((intOf t4) + 1).toNat)
  case atStart => exact ⟨0, _, Nat.zero_le _, by simp, by rw [List.take_zero]; exact HMI.out⟩
  case round =>
  obtain ⟨k, v1, hk, rfl, hmi⟩ := hrel
  by_cases hkm : k < m
  · obtain ⟨i, hi⟩ : ∃ i, i = m - 1 - k := ⟨_, rfl⟩
    have hti : (m : Int) - 1 - k = (i : Int) := by omega
    rw [hti]
    have him : i < m := by omega
    have hge : decide ((i : Int) ≥ 0) = true := decide_eq_true (by omega)
    obtain ⟨b, o, hA, ha⟩ := HE1.out.at_ (i := i) (by rw [← HM.out]; exact him)
    subst hA
    obtain ⟨x, hx⟩ : ∃ x, s.cells[i]?.getD 0 = x := ⟨_, rfl⟩
    rw [hx] at ha
    have HLW : Hid (b < w.heap.size) := Lib.hid (World.block_lt_of_cell? w _ ha)
    have ke : wr.cell? ⟨b, o + i, none⟩ = some (.int .i64 x) := hmi.x.cell ha
    have k1 : wr.cell? ⟨w.heap.size, 1, none⟩ = some (.slice (some ⟨b, o, none⟩) m c1) := (blk_cell hmi.b1 1).trans e1
    obtain ⟨M, hM⟩ : ∃ M, M = s.cells.reverse.take k := ⟨_, rfl⟩
    have hML : M.length = k := by rw [hM, List.length_take, List.length_reverse, ← HM.out]; omega
    have HST : Hid (s.cells.reverse.take (k + 1) = M ++ [x]) := Lib.hid (by
      have : s.cells.reverse[k]? = some x := by
        rw [List.getElem?_reverse (by rw [← HM.out]; exact hkm), ← HM.out, ← hi, ← hx, List.getElem?_eq_getElem (by rw [← HM.out]; exact him)]
        rfl
      rw [List.take_add_one, this, hM]
      rfl)
    rw [← hM] at hmi
    have HMR := Lib.hid hmi
    obtain ⟨A1, C1, hv1, -, -, -, -⟩ := own_sl5 hmi.own1
    obtain ⟨M1, hM1⟩ : ∃ M1, M1 = M.length := ⟨_, rfl⟩
    rw [← hM1] at hv1
    subst hv1
    have k31 : wr.cell? ⟨g, 1, none⟩ = some (.slice A1 M1 C1) := blk_cell hmi.b3 1
    have z31 := blk_frozen hmi.b3 1
    have hlt3 := hmi.lt
    have hg3 := hmi.hg
    have hn1 : w.heap.size ≠ g := by omega
    have hn2 : b ≠ g := by have := HLW.out; omega
    have HW : Hid (Mir w (wr.alloc (.cells #[.int .i64 x] 3)).drew cs g [] M (.slice none 0 0) (.slice A1 M1 C1) a st sp) := Lib.hid (hmi.ext ((Ext.refl wr).alloc _).drew)
    have HSN : Hid (SlC (wr.alloc (.cells #[.int .i64 x] 3)).drew (some ⟨wr.heap.size, 0, none⟩) [.int .i64 x]) := Lib.hid (slc_new wr [.int .i64 x] 3)
    have HON : Hid (∀ u ∈ ([.int .i64 x] : List Value), u.oneCell' = true) := Lib.hid (by simp [Value.oneCell'])
    have HB1 : Hid (M.length + 1 ≤ maxLen) := Lib.hid (by rw [hML]; unfold maxLen; omega)
    have HB2 : Hid ((M.length + 1) * 8 ≤ 140737488355328) := Lib.hid (by rw [hML]; omega)
    have HB3 : Hid (w.heap.size + 2 ≤ (wr.alloc (.cells #[.int .i64 x] 3)).drew.heap.size) := Lib.hid (by have := HW.out.lt; omega)
    have HII := Lib.hid hi
    clear hmi hM hML ha hx hM1 hti hi
    go_upto_region 5 with (fail)
    refine wp_region_held_drew (S := (fun w' => w'.cell? ⟨w.heap.size, 1, none⟩ = some (.slice (some ⟨b, o, none⟩) m c1) ∧ w'.cell? ⟨b, o + i, none⟩ = some (.int .i64 x))) (by kernel_rfl) ?_ (fun hHeld => ?_)
    · exact ⟨k1, ke⟩
    refine wpAnyH_take (i := 0) (oi := { dst := some 27, op := _, type := _, pos := _, after := _, guard := _ }) (v := ?v501) rfl (by kernel_rfl) (by kernel_rfl) (by kernel_rfl) (fun _ _ _ h => h) (Or.inl ⟨by rfl, ?hy501⟩) (by assumption) ?rest501
    case hy501 => (intro w hSw; (try dsimp only at hSw); go_simp; (try with_reducible rfl))
    try simp only [Act.put, List.setIfInBounds_toArray, List.set_cons_zero, List.set_cons_succ]
    refine wpAnyH_take (i := 2) (oi := { dst := some 29, op := _, type := _, pos := _, after := _, guard := _ }) (v := ?v502) rfl (by kernel_rfl) (by kernel_rfl) (by kernel_rfl) (fun _ _ _ h => h) (Or.inl ⟨by rfl, ?hy502⟩) (by assumption) ?rest502
    case hy502 => (intro w hSw; (try dsimp only at hSw); go_simp; (try with_reducible rfl))
    try simp only [Act.put, List.setIfInBounds_toArray, List.set_cons_zero, List.set_cons_succ]
    refine wpAnyH_take (i := 3) (oi := { dst := some 30, op := _, type := _, pos := _, after := _, guard := _ }) (v := ?v503) rfl (by kernel_rfl) (by kernel_rfl) (by kernel_rfl) (fun _ _ _ h => h) (Or.inl ⟨by rfl, ?hy503⟩) (by assumption) ?rest503
    case hy503 => (intro w hSw; (try dsimp only at hSw); go_simp; (try with_reducible rfl))
    try simp only [Act.put, List.setIfInBounds_toArray, List.set_cons_zero, List.set_cons_succ]
    refine wpAnyH_take (i := 4) (oi := { dst := some 31, op := _, type := _, pos := _, after := _, guard := _ }) (v := ?v504) rfl (by kernel_rfl) (by kernel_rfl) (by kernel_rfl) (fun _ _ _ h => h) (Or.inl ⟨by rfl, ?hy504⟩) (by assumption) ?rest504
    case hy504 => (intro w hSw; (try dsimp only at hSw); go_simp; (try with_reducible rfl))
    try simp only [Act.put, List.setIfInBounds_toArray, List.set_cons_zero, List.set_cons_succ]
    refine wpAnyH_take (i := 5) (oi := { dst := some 32, op := _, type := _, pos := _, after := _, guard := _ }) (v := ?v505) rfl (by kernel_rfl) (by kernel_rfl) (by kernel_rfl) (fun _ _ _ h => h) (Or.inl ⟨by rfl, ?hy505⟩) (by assumption) ?rest505
    case hy505 => (intro w hSw; (try dsimp only at hSw); go_simp; (try with_reducible rfl))
    try simp only [Act.put, List.setIfInBounds_toArray, List.set_cons_zero, List.set_cons_succ]
    refine wpAnyH_take (i := 6) (oi := { dst := some 33, op := _, type := _, pos := _, after := _, guard := _ }) (v := ?v506) rfl (by kernel_rfl) (by kernel_rfl) (by kernel_rfl) (fun _ _ _ h => h) (Or.inl ⟨by rfl, ?hy506⟩) (by assumption) ?rest506
    case hy506 => (intro w hSw; (try dsimp only at hSw); go_simp; (try with_reducible rfl))
    try simp only [Act.put, List.setIfInBounds_toArray, List.set_cons_zero, List.set_cons_succ]
    refine wpAnyH_ready (rs := [1, 7]) (by kernel_rfl) (by simp) ?_
    refine (AllReadyH.cons (o := { dst := some 28, op := _, type := _, pos := _, after := _, guard := _ }) rfl (fun K hK => ?_) (AllReadyH.cons (o := { dst := some 34, op := _, type := _, pos := _, after := _, guard := _ }) rfl (fun K hK => ?_) AllReadyH.nil))
    · go_simp
      refine hK.out _ _ ?_ (fun hHeld => ?_)
      · (first | exact hHeld | exact ⟨k1, ke⟩)
      clear hK K
      try simp only [Act.put, List.setIfInBounds_toArray, List.set_cons_zero, List.set_cons_succ]
      refine wpAnyH_ready (rs := [7]) (by kernel_rfl) (by simp) ?_
      refine (AllReadyH.cons (o := { dst := some 34, op := _, type := _, pos := _, after := _, guard := _ }) rfl (fun K hK => ?_) AllReadyH.nil)
      · go_simp
        refine hK.out _ _ ?_ (fun hHeld => ?_)
        · exact ⟨Ext.cell (by repeat (first | exact Ext.refl _ | apply Ext.drew | apply Ext.alloc)) k1, Ext.cell (by repeat (first | exact Ext.refl _ | apply Ext.drew | apply Ext.alloc)) ke⟩
        clear hK K
        try simp only [Act.put, List.setIfInBounds_toArray, List.set_cons_zero, List.set_cons_succ]
        refine wpAnyH_ready (rs := [8]) (by kernel_rfl) (by simp) ?_
        refine (AllReadyH.cons (o := { dst := some 35, op := _, type := _, pos := _, after := _, guard := _ }) rfl (fun K hK => ?_) AllReadyH.nil)
        · refine step_append_sl rfl _ _ 23 rfl (w.heap.size + 2) 3 i0 (.int .i64 0) 1 8 Tryz.underlying23 HI.out HZ0.out HZ1.out HZ2.out rfl (by decide) (.slice A1 M1 C1) M.length (M.map (Value.int .i64)) (by rfl) HW.out.own1 (some ⟨wr.heap.size, 0, none⟩) 1 1 [.int .i64 x] (by rfl) HSN.out rfl HON.out HB1.out HB2.out HB3.out ?_
          intro v' w1 ho3 hg3 hat3
          obtain ⟨A', c', rfl, hlow, a3, a4, a5, hs0⟩ := HW.out.appC ho3 hg3
          have a1 : w1.cell? ⟨w.heap.size, 1, none⟩ = some (.slice (some ⟨b, o, none⟩) m c1) := (hlow w.heap.size (Nat.le_refl _) 1).trans (Ext.cell (by repeat (first | exact Ext.refl _ | apply Ext.drew | apply Ext.alloc)) k1)
          have a2 : w1.cell? ⟨b, o + i, none⟩ = some (.int .i64 x) := (hlow b (Nat.le_of_lt HLW.out) (o + i)).trans (Ext.cell (by repeat (first | exact Ext.refl _ | apply Ext.drew | apply Ext.alloc)) ke)
          have HS0 := Lib.hid hs0
          clear hs0 ho3 hg3 hat3 hlow
          refine hK.out _ _ ?_ (fun hHeld => ?_)
          · exact ⟨a1, a2⟩
          clear hK K
          try simp only [Act.put, List.setIfInBounds_toArray, List.set_cons_zero, List.set_cons_succ]
          refine wpAnyH_take (i := 9) (oi := { dst := some 36, op := _, type := _, pos := _, after := _, guard := _ }) (v := ?v507) rfl (by kernel_rfl) (by kernel_rfl) (by kernel_rfl) (fun _ _ _ h => h) (Or.inl ⟨by rfl, ?hy507⟩) (by assumption) ?rest507
          case hy507 => (intro w hSw; (try dsimp only at hSw); go_simp; (try with_reducible rfl))
          try simp only [Act.put, List.setIfInBounds_toArray, List.set_cons_zero, List.set_cons_succ]
          refine wpAnyH_ready (rs := [10]) (by kernel_rfl) (by simp) ?_
          refine (AllReadyH.cons (o := { dst := none, op := _, type := _, pos := _, after := _, guard := _ }) rfl (fun K hK => ?_) AllReadyH.nil)
          · go_simp
            refine hK.out _ _ ?_ (fun hHeld => ?_)
            · exact ⟨keep_cell a1 (.inl hn1), keep_cell a2 (.inl hn2)⟩
            clear hK K
            try simp only [Act.put, List.setIfInBounds_toArray, List.set_cons_zero, List.set_cons_succ]
            refine wpAnyH_done (by kernel_rfl) ?_ _
            go_wp2
            go_roundw
            case rel => exact ⟨k + 1, _, by omega, by rw [show ((m : Int) - 1 - ((k + 1 : Nat) : Int)) = (i : Int) - 1 by have := HII.out; omega], by rw [HST.out]; exact HS0.out⟩
            case measure => first | (simp [intOf]; done) | (simp [intOf]; omega)
    · go_simp
      refine hK.out _ _ ?_ (fun hHeld => ?_)
      · exact ⟨Ext.cell (by repeat (first | exact Ext.refl _ | apply Ext.drew | apply Ext.alloc)) k1, Ext.cell (by repeat (first | exact Ext.refl _ | apply Ext.drew | apply Ext.alloc)) ke⟩
      clear hK K
      try simp only [Act.put, List.setIfInBounds_toArray, List.set_cons_zero, List.set_cons_succ]
      refine wpAnyH_ready (rs := [1]) (by kernel_rfl) (by simp) ?_
      refine (AllReadyH.cons (o := { dst := some 28, op := _, type := _, pos := _, after := _, guard := _ }) rfl (fun K hK => ?_) AllReadyH.nil)
      · go_simp
        refine hK.out _ _ ?_ (fun hHeld => ?_)
        · (first | exact hHeld | exact ⟨k1, ke⟩)
        clear hK K
        try simp only [Act.put, List.setIfInBounds_toArray, List.set_cons_zero, List.set_cons_succ]
        refine wpAnyH_ready (rs := [8]) (by kernel_rfl) (by simp) ?_
        refine (AllReadyH.cons (o := { dst := some 35, op := _, type := _, pos := _, after := _, guard := _ }) rfl (fun K hK => ?_) AllReadyH.nil)
        · refine step_append_sl rfl _ _ 23 rfl (w.heap.size + 2) 3 i0 (.int .i64 0) 1 8 Tryz.underlying23 HI.out HZ0.out HZ1.out HZ2.out rfl (by decide) (.slice A1 M1 C1) M.length (M.map (Value.int .i64)) (by rfl) HW.out.own1 (some ⟨wr.heap.size, 0, none⟩) 1 1 [.int .i64 x] (by rfl) HSN.out rfl HON.out HB1.out HB2.out HB3.out ?_
          intro v' w1 ho3 hg3 hat3
          obtain ⟨A', c', rfl, hlow, a3, a4, a5, hs0⟩ := HW.out.appC ho3 hg3
          have a1 : w1.cell? ⟨w.heap.size, 1, none⟩ = some (.slice (some ⟨b, o, none⟩) m c1) := (hlow w.heap.size (Nat.le_refl _) 1).trans (Ext.cell (by repeat (first | exact Ext.refl _ | apply Ext.drew | apply Ext.alloc)) k1)
          have a2 : w1.cell? ⟨b, o + i, none⟩ = some (.int .i64 x) := (hlow b (Nat.le_of_lt HLW.out) (o + i)).trans (Ext.cell (by repeat (first | exact Ext.refl _ | apply Ext.drew | apply Ext.alloc)) ke)
          have HS0 := Lib.hid hs0
          clear hs0 ho3 hg3 hat3 hlow
          refine hK.out _ _ ?_ (fun hHeld => ?_)
          · exact ⟨a1, a2⟩
          clear hK K
          try simp only [Act.put, List.setIfInBounds_toArray, List.set_cons_zero, List.set_cons_succ]
          refine wpAnyH_take (i := 9) (oi := { dst := some 36, op := _, type := _, pos := _, after := _, guard := _ }) (v := ?v508) rfl (by kernel_rfl) (by kernel_rfl) (by kernel_rfl) (fun _ _ _ h => h) (Or.inl ⟨by rfl, ?hy508⟩) (by assumption) ?rest508
          case hy508 => (intro w hSw; (try dsimp only at hSw); go_simp; (try with_reducible rfl))
          try simp only [Act.put, List.setIfInBounds_toArray, List.set_cons_zero, List.set_cons_succ]
          refine wpAnyH_ready (rs := [10]) (by kernel_rfl) (by simp) ?_
          refine (AllReadyH.cons (o := { dst := none, op := _, type := _, pos := _, after := _, guard := _ }) rfl (fun K hK => ?_) AllReadyH.nil)
          · go_simp
            refine hK.out _ _ ?_ (fun hHeld => ?_)
            · exact ⟨keep_cell a1 (.inl hn1), keep_cell a2 (.inl hn2)⟩
            clear hK K
            try simp only [Act.put, List.setIfInBounds_toArray, List.set_cons_zero, List.set_cons_succ]
            refine wpAnyH_done (by kernel_rfl) ?_ _
            go_wp2
            go_roundw
            case rel => exact ⟨k + 1, _, by omega, by rw [show ((m : Int) - 1 - ((k + 1 : Nat) : Int)) = (i : Int) - 1 by have := HII.out; omega], by rw [HST.out]; exact HS0.out⟩
            case measure => first | (simp [intOf]; done) | (simp [intOf]; omega)
  · have hkm2 : k = m := by omega
    subst hkm2
    have hti : (k : Int) - 1 - k = -1 := by omega
    rw [hti]
    have HCR : Hid (s.cells.reverse.take k = s.cells.reverse) := Lib.hid (List.take_of_length_le (by rw [List.length_reverse, ← HM.out]; exact Nat.le_refl _))
    rw [HCR.out] at hmi
    obtain ⟨C, hC⟩ : ∃ C, C = s.cells.reverse := ⟨_, rfl⟩
    rw [← hC] at hmi
    have HC := Lib.hid hC
    have HMR := Lib.hid hmi
    clear hmi hC hti
    go_wp2_with fail
    go_loopw [5] (fun t5 wx => ∃ j : Nat, ∃ v0, j ≤ n ∧ t5 = .int .i64 j ∧ Mir w wx cs g ((s.rules.map Tape.turn).take j) C v0 v1 a st sp) (fun t5 _ => n - (intOf t5).toNat)
    case atStart => exact ⟨0, _, Nat.zero_le _, rfl, by rw [List.take_zero]; exact HMR.out⟩
    case round =>
    obtain ⟨j, v0, hj, rfl, hmi⟩ := hrel
    obtain ⟨M, hM⟩ : ∃ M, M = (s.rules.map Tape.turn).take j := ⟨_, rfl⟩
    have HML : Hid (M.length = j) := Lib.hid (by rw [hM, List.length_take, List.length_map, ← HN.out]; omega)
    rw [← hM] at hmi
    have HMM := Lib.hid hM
    clear hM
    by_cases hjn : j < n
    · obtain ⟨r, hr⟩ : ∃ r, s.rules[j]? = some r := ⟨_, List.getElem?_eq_getElem (by rw [← HN.out]; exact hjn)⟩
      obtain ⟨b, o, rfl, hra⟩ := Rls.at_ (HE0.out.ext hmi.x) hr
      have HRA := Lib.hid hra
      have hfr := HRF.out r (List.mem_of_getElem? hr)
      have wn : IntKind.i64.wrap (-r.mv) = -r.mv := IntWalk.i64_in _ (by have := hfr.mv0; have := hfr.mv1; omega)
      have HST : Hid ((s.rules.map Tape.turn).take (j + 1) = M ++ [Tape.turn r]) := Lib.hid (by
        rw [List.take_add_one, List.getElem?_map, hr, HMM.out]; rfl)
      have HMJ := Lib.hid hmi
      have k0 : wr.cell? ⟨w.heap.size, 0, none⟩ = some (.slice (some ⟨b, o, none⟩) n c0) := (blk_cell hmi.b1 0).trans e0
      clear hra hr hmi hfr
      go_upto_region 9 with (fail)
      go_cut [6] (fun s6 wx => s6 = .pointer (some ⟨wr.heap.size, 0, none⟩) ∧ wx.heap[wr.heap.size]? = some (.cells (ruleV r).toArray 54 (0, 0)) ∧ Ext wr wx)
      case first =>
        have HZ := Lib.hid (heap_alloc_new wr (.cells #[.int .i64 0, .int .i64 0, .int .i64 0, .int .i64 0, .int .i64 0] 54))
        go_wp2_with (first | refine wpList_load_cells rfl 54 _ rfl b (o + j * 5) rfl _ (ruleV r) HRA.out.cells Tryz.underlying54 rfl sizeR ?_ | refine wpList_store_row rfl 54 _ _ rfl wr.heap.size (ruleV r).toArray rfl rfl 54 _ HZ.out sizeR rfl (ruleV_one r) ?_)
        go_meet
        exact ⟨rfl, setRow_heap _ _ _ _ _ _ HZ.out, ((Ext.refl wr).alloc _).setRow (Nat.le_refl _) _⟩
      obtain ⟨rfl, hbr, hxa⟩ := hcut
      obtain ⟨gr, hgr⟩ : ∃ gr, wr.heap.size = gr := ⟨_, rfl⟩
      rw [hgr] at hbr ⊢
      obtain ⟨wd, rfl⟩ : ∃ wd : World, wd = wc := ⟨_, rfl⟩
      have HGS : Hid (wr.heap.size = gr) := Lib.hid hgr
      have HGR : Hid (g < gr) := Lib.hid (by rw [← hgr]; exact HMJ.out.lt)
      have HMD := Lib.hid (HMJ.out.ext hxa)
      have r3 : wd.cell? ⟨gr, 3, none⟩ = some (.int .i64 r.mv) := blk_cell hbr 3
      have z3 := blk_frozen hbr 3
      have hltg := (Array.getElem?_eq_some_iff.1 hbr).1
      have HBR := Lib.hid hbr
      clear hbr hxa hgr k0
      go_upto_region 11 with (fail)
      have hgw : w.heap.size + 2 ≤ gr := by have := HGR.out; have := HMD.out.hg; omega
      refine wp_worldT (fun wx => wx.heap[gr]? = some (.cells (ruleV (Tape.turn r)).toArray 54 (0, 0)) ∧ Mir w wx cs g M C v0 v1 a st sp) ⟨?_, ?_⟩ ?_
      · exact heap_set_self HBR.out 3 (.int .i64 (-r.mv))
      · exact Mir.low HMD.out HGR.out HBR.out (fun e => by have := (own_lt HMJ.out.own0 e).2; have := HGS.out; omega)
      rintro we ⟨hbr, hmi⟩
      have HBR := Lib.hid hbr
      obtain ⟨A2, C2, hv0, -, -, -, -⟩ := own_sl5 hmi.own0
      obtain ⟨M1, hM1⟩ : ∃ M1, M1 = M.length := ⟨_, rfl⟩
      rw [← hM1] at hv0
      subst hv0
      have HME := Lib.hid hmi
      have k30 : we.cell? ⟨g, 0, none⟩ = some (.slice A2 M1 C2) := blk_cell hmi.b3 0
      have hlte := hmi.lt
      obtain ⟨ir, hi, hz0, hz1, hz2⟩ := info_parts infoR
      have HIR := Lib.hid hi
      have HY0 := Lib.hid hz0
      have HY1 := Lib.hid hz1
      have HY2 := Lib.hid hz2
      have HB1 : Hid (M.length + 1 ≤ maxLen) := Lib.hid (by rw [HML.out]; unfold maxLen; omega)
      have HB2 : Hid ((M.length + 1) * 40 ≤ 140737488355328) := Lib.hid (by have h1 := HRB.out; rw [← HN.out] at h1; rw [HML.out]; omega)
      have HB3 : Hid (w.heap.size + 2 ≤ (we.alloc (.cells (ruleV (Tape.turn r)).toArray 54)).heap.size) := Lib.hid (by have := HME.out.lt; have := HME.out.hg; simp; omega)
      have HOW : Hid ((we.alloc (.cells (ruleV (Tape.turn r)).toArray 54)).ownsRow (w.heap.size + 2) 54 5 (.slice A2 M1 C2) M.length (rulesV M)) := Lib.hid (town_ext HME.out.own0 ((Ext.refl we).alloc _))
      have HMA := Lib.hid (HME.out.ext ((Ext.refl we).alloc (.cells (ruleV (Tape.turn r)).toArray 54)))
      clear hbr hmi hi hz0 hz1 hz2 hM1 r3 z3 hltg wn
      go_wp2_with (first | refine wpList_load_row rfl 54 _ rfl gr rfl 54 (ruleV (Tape.turn r)).toArray (0, 0) _ HBR.out Tryz.underlying54 rfl sizeR ?_ | refine wpList_buildSlice_rule rfl _ rfl (Tape.turn r) rfl ?_ | (at_builtin; refine wpList_append_sl rfl _ _ 22 rfl (w.heap.size + 2) 54 ir _ 5 40 Tryz.underlying22 HIR.out HY0.out HY1.out HY2.out rfl (by decide) (.slice A2 M1 C2) M.length (rulesV M) rfl HOW.out (some ⟨we.heap.size, 0, none⟩) 1 1 (ruleV (Tape.turn r)) rfl (slc_at rfl (ruleV (Tape.turn r))) rfl (rule_one (Tape.turn r)) HB1.out HB2.out HB3.out ?_; intro v5 w5 ho5 hg5 _h5; obtain ⟨A5, C5, rfl, -, a3, a4, a5, hs0⟩ := HMA.out.appR ho5 hg5; have HS0 := Lib.hid hs0; clear hs0 ho5 hg5 _h5))
      go_roundw
      case rel => exact ⟨j + 1, _, by omega, by go_num, by rw [HST.out]; exact HS0.out⟩
      case measure => simp [intOf]; omega
    · have HMT : Hid (M = s.rules.map Tape.turn) := Lib.hid (by rw [HMM.out, List.take_of_length_le]; rw [List.length_map, ← HN.out]; omega)
      have HMJ := Lib.hid hmi
      have k0 : wr.cell? ⟨w.heap.size, 0, none⟩ = some (.slice A0 n c0) := (blk_cell hmi.b1 0).trans e0
      have HO := Lib.hid (mirV_one (a := a) (b := st) (c := sp) hmi.own0 hmi.own1)
      have hlt := hmi.lt
      have hgg := hmi.hg
      obtain ⟨cz, hcz⟩ : ∃ cz, cz = mirV v0 v1 a st sp := ⟨_, rfl⟩
      have HSZ : Hid (cz.size = 5) := Lib.hid (by rw [hcz]; rfl)
      have HB3 : Hid (wr.heap[g]? = some (.cells cz 25 (0, 0))) := Lib.hid (by rw [hcz]; exact hmi.b3)
      have HB2 := Lib.hid hmi.b2
      have HRET : Hid (StdRet w (Tape.mirror s) (.returned (.agg cz)) (wr.setRow (w.heap.size + 1) cz)) := Lib.hid (by
        have hm := HMJ.out
        have hms : Tape.mirror s = ⟨M, C, a, st, sp⟩ := by rw [mirror_eq, HMT.out, HC.out, ← HA.out, HSS.out.1, HSS.out.2]
        refine ⟨cz, rfl, ?_, hm.x.setRow (by omega) _⟩
        have hwf := HMW.out
        rw [hms] at hwf ⊢
        rw [hcz]
        exact hm.is hwf _ (fun d hd _ => setRow_other _ _ _ _ (by omega)))
      rw [← hcz] at HO
      clear hmi hcz
      go_wp2_with (first | refine wpList_load_row rfl 25 _ rfl g rfl 25 cz (0, 0) _ HB3.out Tryz.underlying25 rfl (by rw [HSZ.out]; exact sizeQ) ?_ | refine wpList_store_row rfl 25 _ _ rfl (w.heap.size + 1) cz rfl rfl 25 zeroTs HB2.out (by rw [HSZ.out]; exact sizeQ) (by rw [HSZ.out]; rfl) HO.out ?_)
      refine bodyPost_ret (results_oneT rfl _ _ (w.heap.size + 1) 25 cz (0, 0) _ rfl ?_ Tryz.underlying25 rfl (by rw [HSZ.out]; exact sizeQ)) rfl HRET.out
      exact setRow_heap _ _ _ _ _ _ HB2.out
end Go.Proofs.YtbaahbpianingaaGreatDoor
