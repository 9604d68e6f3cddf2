import Derived.Test.YtpooedfchjpndaaDoorStartC
import Derived.Test.YtpooedfchjpndaaDoorPlain
import Derived.Test.YtpooedfchjpndaaDoorSame
namespace Go.Proofs.YtpooedfchjpndaaDoor
open Go Go.Proofs Go.RowKit
set_option maxHeartbeats 3200000
set_option maxRecDepth 100000
/-- A variable of the state's type. -/
structure Var (w : World) (g : Nat) (cs : Array Value) (s : St) : Prop where
  g : w.heap[g]? = some (.cells cs 28 (0, 0))
  st : StIs w cs s
theorem Var.ext {w w' : World} {g : Nat} {cs : Array Value} {s : St} (h : Var w g cs s) (x : Ext w w') : Var w' g cs s := ⟨ext_heap x h.g, h.st.ext x⟩
def asgW (w1 : World) (cs' : Array Value) (c i : Int) : World := ((((w1.alloc (.cells zeroSt 28)).alloc (.cells #[.int .i64 0, .int .i64 0] 30)).setRow w1.heap.size cs').setRow (w1.heap.size + 1) #[.int .i64 c, .int .i64 i])
structure Asg (w1 W : World) (cs' : Array Value) (s : St) (c i : Int) : Prop where
  v : Var W w1.heap.size cs' s
  f : W.heap[w1.heap.size + 1]? = some (.cells #[.int .i64 c, .int .i64 i] 30 (0, 0))
  x : Ext w1 W
theorem asg_mk (w1 : World) {cs' : Array Value} {s : St} (h : StIs w1 cs' s) (c i : Int) : Asg w1 (asgW w1 cs' c i) cs' s c i := by
  have hx : Ext w1 (asgW w1 cs' c i) := (((((Ext.refl w1).alloc _).alloc _).setRow (Nat.le_refl _) _).setRow (by omega) _)
  have hh := step_heap w1 cs' c i (.cells #[.int .i64 0, .int .i64 0] 30)
  exact ⟨⟨hh.1, h.ext hx⟩, hh.2, hx⟩
theorem sl_block {w : World} {g : Nat} {cs : Array Value} {t : TypeId} {fr : Nat × Nat} {k : IntKind} {l : List Int} (h : w.heap[g]? = some (.cells cs t fr)) (hl : cs.toList = l.map (Value.int k)) : Sl w k (some ⟨g, 0, none⟩) l := by
  intro i u hu
  refine ⟨_, rfl, ?_⟩
  have : (Addr.add ⟨g, 0, none⟩ i) = ⟨g, i, none⟩ := by
    by_cases h0 : i = 0
    · subst h0; simp [Addr.add]
    · simp [Addr.add, h0]
  rw [this, cell_of_row w g i cs t fr h, ← Array.getElem?_toList, hl]
  exact hu
def exS : St := { st0 with image := [22, 2, 6, 23, 0], input := [33] }
theorem ex_start : startG [22, 2, 6, 23, 0] [33] = (exS, (0, 0)) := by rfl
theorem ex_run : runG exS 9 = ((runF 9 exS).1, 5, (0, 0)) := by rfl
theorem ex_step : runG exS 1 = ((runF 1 exS).1, 1, (0, 0)) := by rfl
theorem ex_out : (runF 9 exS).1.output = [66] := by rfl
theorem ex_stop : (runF 9 exS).1.stop = 1 := by rfl
theorem ex_at : (runF 1 exS).1.at_ = 1 := by rfl
theorem ex_data : (runF 1 exS).1.data = [33] := by rfl
theorem ex_valid : faultOf (runF 9 exS).1 = (0, 0) := by rfl
theorem byt_lit (l : List Int) (h : l.all (fun x => decide (0 ≤ x ∧ x < 256)) = true) : Byt l := fun x hx => by simpa using List.all_eq_true.1 h x hx
theorem wpList_load_rowg {P : Program} {ops : Array Oper} {rest : List Oper} {o : Oper} {a : Act} {w : World} {Q : Exit → Act → World → Prop} (hw : Region.wanted o (yielded ops a.tmps) = true) (ty : TypeId) (x : Operand) (ho : o.op = .load ty x)
    (g : Nat) (hx : a.eval x = .pointer (some ⟨g, 0, none⟩)) (t : TypeId) (cs : Array Value) (fr : Nat × Nat) (d : TypeDesc) (hg : w.heap[g]? = some (.cells cs t fr))
    (hu : P.underlying ty = some d) (hd : (match d with | .struct _ | .array _ _ => true | _ => false) = true) (hi : (P.info? ty).map (·.size) = some cs.size)
    (h : wpList P ops Q rest (a.put o.dst (.agg cs)) w) : wpList P ops Q (o :: rest) a w := by
  refine wpList_step fun K hK => ?_
  rw [if_pos hw]
  exact wp_load_row ty x ho g hx t cs fr d hg hu hd hi (hK _ _ h)
theorem fld0 (c i : Int) (w : World) : (Instr.field 30 (.agg #[.int .i64 c, .int .i64 i]) 0).run Tryd.prog w = .ok (.int .i64 c) w := by kernel_rfl
theorem stacked_c (w : World) (ht : Tabs w) : Calls Tryd.prog 13 #[] w (BRet w true) := by
  have HT := Lib.hid ht
  clear ht
  go_enter Tryd.func13, Tryd.ntmps13
  go_upto_region 1 with (fail)
  go_cut [1, 2] (fun s1 s2 wx => ∃ g cs, s1 = .pointer (some ⟨g, 0, none⟩) ∧ s2 = .pointer (some ⟨g + 1, 0, none⟩) ∧ Var wx g cs exS ∧ wx.heap[g + 1]? = some (.cells #[.int .i64 0, .int .i64 0] 30 (0, 0)) ∧ Ext w wx)
  case first =>
    go_wp2_with fail
    have hx0 : Ext w ((w.alloc (.cells #[.int .u8 22, .int .u8 2, .int .u8 6, .int .u8 23, .int .u8 0] 5)).alloc (.cells #[.int .u8 33] 5)) := ((Ext.refl w).alloc _).alloc _
    have HX0 := Lib.hid hx0
    have HS := Lib.hid (start_go (some ⟨w.heap.size, 0, none⟩) (some ⟨w.heap.size + 1, 0, none⟩) [22, 2, 6, 23, 0] [33] 5 1 _ (by simp [maxLen]) (by simp [maxLen]) (byt_lit _ rfl) (byt_lit _ rfl) (sl_block (heap_alloc2_old w _ _) rfl) (sl_block (heap_alloc2_new w (.cells #[.int .u8 22, .int .u8 2, .int .u8 6, .int .u8 23, .int .u8 0] 5) (.cells #[.int .u8 33] 5)) rfl) (fun h => by cases h) (fun h => by cases h))
    clear hx0
    refine HS.out.mono ?_
    rw [ex_start]
    rintro e w1 ⟨cs', rfl, hst, hx1⟩
    have HA := Lib.hid (asg_mk w1 hst.st 0 0)
    have HS2 := Lib.hid hst.st.size
    have HO := Lib.hid (st_one hst.st)
    have HX1 := Lib.hid hx1
    have H28 := Lib.hid (heap_alloc2_old w1 (.cells zeroSt 28) (.cells #[.int .i64 0, .int .i64 0] 30))
    have H30 := Lib.hid ((setRow_other _ w1.heap.size (w1.heap.size + 1) cs' (by omega)).trans (heap_alloc2_new w1 (.cells zeroSt 28) (.cells #[.int .i64 0, .int .i64 0] 30)))
    clear hst hx1
    simp only [fAgg]
    go_wp2_with (first | refine wpList_alloc28 rfl rfl ?_ | refine wpList_store_row rfl 28 _ _ rfl w1.heap.size cs' rfl rfl 28 zeroSt H28.out (by rw [HS2.out]; exact size28) (by rw [HS2.out]; rfl) HO.out ?_ | refine wpList_store_row rfl 30 _ _ rfl (w1.heap.size + 1) #[.int .i64 0, .int .i64 0] rfl rfl 30 _ H30.out size30 rfl (by kernel_rfl) ?_)
    go_meet
    exact ⟨_, cs', rfl, rfl, HA.out.v, HA.out.f, HX0.out.trans (HX1.out.trans HA.out.x)⟩
  case rest => 
    obtain ⟨g, cs, rfl, rfl, hv, hf, hx⟩ := hcut
    have HV := Lib.hid hv
    have HF := Lib.hid hf
    have HX := Lib.hid hx
    have HS := Lib.hid hv.st.size
    clear hv hf hx
    go_upto_region 2 with (fail)
    go_cut [3, 4, 5] (fun s3 s4 s5 wx => ∃ g3 cs3, s3 = .pointer (some ⟨g3, 0, none⟩) ∧ s4 = .int .i64 5 ∧ s5 = .pointer (some ⟨g3 + 1, 0, none⟩) ∧ Var wx g3 cs3 (runF 9 exS).1 ∧ wx.heap[g3 + 1]? = some (.cells #[.int .i64 0, .int .i64 0] 30 (0, 0)) ∧ Ext wc wx)
    case first =>
      have HR := Lib.hid (run_all cs exS 9 wc HV.out.st (HT.out.below HX.out (tabs_lt HT.out)))
      go_wp2_with (refine wpList_load_row rfl 28 _ rfl g rfl 28 cs (0, 0) _ HV.out.g Tryd.underlying28 rfl (by rw [HS.out]; exact size28) ?_)
      refine HR.out.mono ?_
      rw [ex_run]
      rintro e w1 ⟨cs', rfl, hst, hx1⟩
      have HA := Lib.hid (asg_mk w1 hst.st 0 0)
      have HS2 := Lib.hid hst.st.size
      have HO := Lib.hid (st_one hst.st)
      have HX1 := Lib.hid hx1
      have H28 := Lib.hid (heap_alloc2_old w1 (.cells zeroSt 28) (.cells #[.int .i64 0, .int .i64 0] 30))
      have H30 := Lib.hid ((setRow_other _ w1.heap.size (w1.heap.size + 1) cs' (by omega)).trans (heap_alloc2_new w1 (.cells zeroSt 28) (.cells #[.int .i64 0, .int .i64 0] 30)))
      clear hst hx1
      simp only [fAgg]
      go_wp2_with (first | refine wpList_alloc28 rfl rfl ?_ | refine wpList_store_row rfl 28 _ _ rfl w1.heap.size cs' rfl rfl 28 zeroSt H28.out (by rw [HS2.out]; exact size28) (by rw [HS2.out]; rfl) HO.out ?_ | refine wpList_store_row rfl 30 _ _ rfl (w1.heap.size + 1) #[.int .i64 0, .int .i64 0] rfl rfl 30 _ H30.out size30 rfl (by kernel_rfl) ?_)
      go_meet
      exact ⟨_, cs', rfl, rfl, rfl, HA.out.v, HA.out.f, HX1.out.trans HA.out.x⟩
    case rest =>
      obtain ⟨g3, cs3, rfl, rfl, rfl, hv3, hf3, hx3⟩ := hcut
      obtain ⟨w3, rfl⟩ : ∃ w3 : World, w3 = wc := ⟨_, rfl⟩
      have HV1 := Lib.hid (HV.out.ext hx3)
      have HF1 := Lib.hid (ext_heap hx3 HF.out)
      have HV3 := Lib.hid hv3
      have HF3 := Lib.hid hf3
      have HX3 := Lib.hid (HX.out.trans hx3)
      clear hv3 hf3 hx3 HV HF HX
      go_upto_region 3 with (fail)
      go_cut [6, 7] (fun s6 s7 wx => ∃ g6 cs6, s6 = .pointer (some ⟨g6, 0, none⟩) ∧ s7 = .pointer (some ⟨g6 + 1, 0, none⟩) ∧ Var wx g6 cs6 (runF 1 exS).1 ∧ wx.heap[g6 + 1]? = some (.cells #[.int .i64 0, .int .i64 0] 30 (0, 0)) ∧ Ext w3 wx)
      case first =>
        have HR := Lib.hid (step_go cs exS w3 HV1.out.st (HT.out.below HX3.out (tabs_lt HT.out)))
        go_wp2_with (refine wpList_load_row rfl 28 _ rfl g rfl 28 cs (0, 0) _ HV1.out.g Tryd.underlying28 rfl (by rw [HS.out]; exact size28) ?_)
        refine HR.out.mono ?_
        rw [ex_step]
        rintro e w1 ⟨cs', rfl, hst, hx1⟩
        have HA := Lib.hid (asg_mk w1 hst.st 0 0)
        have HS2 := Lib.hid hst.st.size
        have HO := Lib.hid (st_one hst.st)
        have HX1 := Lib.hid hx1
        have H28 := Lib.hid (heap_alloc2_old w1 (.cells zeroSt 28) (.cells #[.int .i64 0, .int .i64 0] 30))
        have H30 := Lib.hid ((setRow_other _ w1.heap.size (w1.heap.size + 1) cs' (by omega)).trans (heap_alloc2_new w1 (.cells zeroSt 28) (.cells #[.int .i64 0, .int .i64 0] 30)))
        clear hst hx1
        simp only [fAgg]
        go_wp2_with (first | refine wpList_alloc28 rfl rfl ?_ | refine wpList_store_row rfl 28 _ _ rfl w1.heap.size cs' rfl rfl 28 zeroSt H28.out (by rw [HS2.out]; exact size28) (by rw [HS2.out]; rfl) HO.out ?_ | refine wpList_store_row rfl 30 _ _ rfl (w1.heap.size + 1) #[.int .i64 0, .int .i64 0] rfl rfl 30 _ H30.out size30 rfl (by kernel_rfl) ?_)
        go_meet
        exact ⟨_, cs', rfl, rfl, HA.out.v, HA.out.f, HX1.out.trans HA.out.x⟩
      case rest =>
        obtain ⟨g6, cs6, rfl, rfl, hv6, hf6, hx6⟩ := hcut
        have v3 := HV3.out.ext hx6
        have f2 : wc.cell? ⟨g + 1, 0, none⟩ = some (.int .i64 0) := blk_cell (ext_heap hx6 HF1.out) 0
        have f5 : wc.cell? ⟨g3 + 1, 0, none⟩ = some (.int .i64 0) := blk_cell (ext_heap hx6 HF3.out) 0
        have f7 : wc.cell? ⟨g6 + 1, 0, none⟩ = some (.int .i64 0) := blk_cell hf6 0
        obtain ⟨A6, c6, e6, _, m6, _, s6⟩ := v3.st.output
        rw [ex_out] at e6 s6
        have o6 : wc.cell? ⟨g3, 37, none⟩ = some (.slice A6 1 c6) := (blk_cell v3.g 37).trans e6
        have o7 : wc.cell? ⟨g3, 38, none⟩ = some (.int .i64 1) := (blk_cell v3.g 38).trans (by rw [v3.st.stop, ex_stop])
        have o1 : wc.cell? ⟨g6, 1, none⟩ = some (.int .i64 1) := (blk_cell hv6.g 1).trans (by rw [hv6.st.at_, ex_at])
        obtain ⟨A2, c2, e2, _, m2, _, s2⟩ := hv6.st.data
        rw [ex_data] at e2 s2
        have o2 : wc.cell? ⟨g6, 2, none⟩ = some (.slice A2 1 c2) := (blk_cell hv6.g 2).trans e2
        have HX6 := Lib.hid (HX3.out.trans hx6)
        have HV3' := Lib.hid v3
        have HS3 := Lib.hid v3.st.size
        have HS6 := Lib.hid s6
        clear v3 hv6 hf6 hx6 e6 e2 s6 s2
        go_wp2_with fail
        have hx8 : Ext wc (wc.alloc (.cells #[.int .u8 66] 5)) := (Ext.refl wc).alloc _
        have HSB := Lib.hid (SameBytes_c A6 (some ⟨wc.heap.size, 0, none⟩) [66] [66] c6 1 (wc.alloc (.cells #[.int .u8 66] 5)) (HS6.out.ext hx8) (sl_block (heap_alloc_new wc _) rfl) (byt_lit _ rfl) (byt_lit _ rfl))
        have HG3 := Lib.hid (ext_heap hx8 HV3'.out.g)
        have HVC := Lib.hid (Valid_c cs3 _ (wc.alloc (.cells #[.int .u8 66] 5)) (HV3'.out.st.ext hx8))
        have HX8 := Lib.hid (HX6.out.trans hx8)
        have p7 := hx8.cell o7
        have p1 := hx8.cell o1
        have p2 := hx8.cell o2
        clear hx8 o7 o1 o2 o6 f2 f5 f7
        refine HSB.out.mono ?_
        rintro e w9 ⟨rfl, hw9⟩
        rw [hw9] at HG3 HVC HX8 p7 p1 p2
        clear hw9 HSB
        simp only [decide_true]
        go_wp2_with (refine wpList_load_rowg (by rfl) 28 _ rfl g3 (by rfl) 28 cs3 (0, 0) _ HG3.out Tryd.underlying28 rfl (by rw [HS3.out]; exact size28) ?_)
        refine HVC.out.mono ?_
        rw [ex_valid]
        rintro e w10 ⟨rfl, hx10⟩
        have HX10 := Lib.hid (HX8.out.trans hx10)
        clear hx10 p7 p1 p2
        simp only [fAgg]
        have hfld := fld0 0 0
        go_wp2_with fail
        go_ret
        exact ⟨rfl, HX10.out⟩
end Go.Proofs.YtpooedfchjpndaaDoor
