import Derived.Test.YtpooedfchjpndaaDoorMatchL
import Derived.Test.YtpooedfchjpndaaDoorRan
namespace Go.Proofs.YtpooedfchjpndaaDoor
open Go Go.Proofs Go.RowKit
set_option maxHeartbeats 12800000
set_option maxRecDepth 100000
theorem step_load_rowg {P : Program} {W : World} {ops : Array Oper} {o : Oper} {a : Act} {K : Act → World → Prop} {Q : Exit → Act → World → Prop} {E : Prop} (hw : Region.wanted o (yielded ops a.tmps) = true) (ty : TypeId) (x : Operand) (ho : o.op = .load ty x)
    (g : Nat) (hx : a.eval x = .pointer (some ⟨g, 0, none⟩)) (t : TypeId) (cs : Array Value) (fr : Nat × Nat) (d : TypeDesc) (hg : W.heap[g]? = some (.cells cs t fr))
    (hu : P.underlying ty = some d) (hd : (match d with | .struct _ | .array _ _ => true | _ => false) = true) (hi : (P.info? ty).map (·.size) = some cs.size)
    (h : K (a.put o.dst (.agg cs)) W) : if Region.wanted o (yielded ops a.tmps) = true then Oper.wp P o a W K Q else E := by
  rw [if_pos hw]
  exact wp_load_row ty x ho g hx t cs fr d hg hu hd hi h
theorem step_callg {P : Program} {W : World} {ops : Array Oper} {o : Oper} {a : Act} {K : Act → World → Prop} {Q : Exit → Act → World → Prop} {E : Prop} (hw : Region.wanted o (yielded ops a.tmps) = true) (f : FuncId) (args : List Operand) (ts : Array TypeId)
    (ho : o.op = .call { callee := .value (.func f), args := args.toArray, argTypes := ts }) (vs : List Value) (hvs : args.map a.eval = vs) (hf : ∀ W : World, (callFunc f vs.toArray).run P W = .ok (.enter f vs.toArray) W) {R : Ending → World → Prop} (hc : Calls P f vs.toArray W R)
    (h : ∀ e w', R e w' → ∃ v, e = .returned v ∧ K (a.put o.dst v) w') : if Region.wanted o (yielded ops a.tmps) = true then Oper.wp P o a W K Q else E := by
  rw [if_pos hw]
  unfold Oper.wp
  have hr : (execOp a.eval o).run P W = .ok (.enter f vs.toArray) W := by
    rw [← hf W, ← hvs]
    simp [execOp, ho, resolve, Deferred.ofValue, Act.eval, invoke]
  rw [hr]
  exact hc.mono fun e w' hR => by
    obtain ⟨v, rfl, hk⟩ := h e w' hR
    exact hk
theorem st0_any {w F : World} {c : Array Value} (h : StIs w c st0) : StIs F c st0 := by
  have sl : ∀ {k : IntKind} {o : Option Value}, SlAt w k o [] → SlAt F k o [] := fun hs => by
    obtain ⟨A, c, h1, h2, h3, h4, _⟩ := hs
    exact ⟨A, c, h1, h2, h3, h4, SlC.nil _ _⟩
  exact ⟨h.size, sl h.image, h.at_, sl h.data, sl h.ret, h.mem, sl h.input, sl h.output, h.stop, h.wf⟩
theorem asg28 (w1 : World) {cs' : Array Value} {s : St} (h : StIs w1 cs' s) : Var ((w1.alloc (.cells zeroSt 28)).setRow w1.heap.size cs') w1.heap.size cs' s ∧ Ext w1 ((w1.alloc (.cells zeroSt 28)).setRow w1.heap.size cs') :=
  have x : Ext w1 ((w1.alloc (.cells zeroSt 28)).setRow w1.heap.size cs') := ((Ext.refl w1).alloc _).setRow (Nat.le_refl _) _
  ⟨⟨setRow_heap _ _ _ _ _ _ (heap_alloc_new w1 _), h.ext x⟩, x⟩
theorem match_c (cs : Array Value) (s : St) (A B : Option Addr) (l m : List Int) (c d : Nat) (n : Int) (w : World) (h : StIs w cs s) (ht : Tabs w) (hl : l.length ≤ maxLen) (hm : m.length ≤ maxLen) (hlc : l.length ≤ c) (hmd : m.length ≤ d) (hcm : c ≤ maxLen) (hdm : d ≤ maxLen) (bl : Byt l) (bm : Byt m) (h1 : Sl w .u8 A l) (h2 : Sl w .u8 B m) (hA : A = none → c = 0) (hB : B = none → d = 0) :
    Calls Tryd.prog 3 #[.agg cs, .slice A l.length c, .slice B m.length d, .int .i64 n] w (BRet w true) := by
  have HT := Lib.hid ht
  have HH := Lib.hid h
  have HS := Lib.hid h.size
  have HST := Lib.hid (fun W (x : Ext w W) => start_go A B l m c d W hl hm bl bm (h1.ext x) (h2.ext x) hA hB)
  have HSA := Lib.hid (fun W (x : Ext w W) => (⟨A, c, rfl, hlc, hcm, hA, h1.ext x⟩ : SlAt W .u8 (some (.slice A l.length c)) l))
  have HSB := Lib.hid (fun W (x : Ext w W) => (⟨B, d, rfl, hmd, hdm, hB, h2.ext x⟩ : SlAt W .u8 (some (.slice B m.length d)) m))
  have HBL := Lib.hid bl
  have HBM := Lib.hid bm
  unfold maxLen at hl hm
  obtain ⟨ss, fc, fi, hst⟩ : ∃ ss fc fi, startG l m = (ss, (fc, fi)) := ⟨_, _, _, rfl⟩
  have HG := Lib.hid hst
  clear ht h hlc hmd hcm hdm bl bm h1 h2 hA hB hst
  go_enter Tryd.func3, Tryd.ntmps3
  go_upto_region 0 with (fail)
  go_cut [4] (fun s4 wx => s4 = .pointer (some ⟨w.heap.size, 0, none⟩) ∧ Var wx w.heap.size cs s ∧ Ext w wx)
  case first =>
    go_wp2_with fail
    go_meet
    exact ⟨rfl, var_box w cs s HH.out, (Ext.refl w).alloc _⟩
  obtain ⟨rfl, hv, hx⟩ := hcut
  have HV := Lib.hid hv
  have HX := Lib.hid hx
  have hlt4 : w.heap.size < wc.heap.size := (Array.getElem?_eq_some_iff.1 hv.g).1
  clear hv hx
  obtain ⟨wa, rfl⟩ : ∃ wa : World, wa = wc := ⟨_, rfl⟩
  go_upto_region 1 with (fail)
  go_cut [9, 10] (fun s9 s10 wx => ∃ g9 c9, s9 = .pointer (some ⟨g9, 0, none⟩) ∧ s10 = .pointer (some ⟨g9 + 1, 0, none⟩) ∧ Var wx g9 c9 ss ∧ wx.heap[g9 + 1]? = some (.cells #[.int .i64 fc, .int .i64 fi] 30 (0, 0)) ∧ Ext wa wx ∧ wa.heap.size ≤ g9 ∧ Apart wx g9 c9 ss)
  case first =>
    have HR := Lib.hid (HST.out wa HX.out)
    go_wp2_with fail
    refine HR.out.mono ?_
    rw [HG.out]
    rintro e w2 ⟨cs', rfl, hst, hx1⟩
    have HP := Lib.hid hst
    have HA := Lib.hid (asg_mk w2 hst.st fc fi)
    have HS2 := Lib.hid hst.st.size
    have HO := Lib.hid (st_one hst.st)
    have HX1 := Lib.hid hx1
    have H28 := Lib.hid (heap_alloc2_old w2 (.cells zeroSt 28) (.cells #[.int .i64 0, .int .i64 0] 30))
    have H30 := Lib.hid ((setRow_other _ w2.heap.size (w2.heap.size + 1) cs' (by omega)).trans (heap_alloc2_new w2 (.cells zeroSt 28) (.cells #[.int .i64 0, .int .i64 0] 30)))
    clear hst hx1
    simp only [fAgg]
    go_wp2_with (first | refine wpList_alloc28 rfl rfl ?_ | refine wpList_store_row rfl 28 _ _ rfl w2.heap.size cs' rfl rfl 28 zeroSt H28.out (by rw [HS2.out]; exact size28) (by rw [HS2.out]; rfl) HO.out ?_ | refine wpList_store_row rfl 30 _ _ rfl (w2.heap.size + 1) #[.int .i64 fc, .int .i64 fi] rfl rfl 30 _ H30.out size30 rfl (by kernel_rfl) ?_)
    go_meet
    exact ⟨_, cs', rfl, rfl, HA.out.v, HA.out.f, HX1.out.trans HA.out.x, HX1.out.size, apart_mk HP.out HA.out.x⟩
  obtain ⟨g9, c9, rfl, rfl, hv9, hf9, hx9, hg9, hap9⟩ := hcut
  obtain ⟨wb, rfl⟩ : ∃ wb : World, wb = wc := ⟨_, rfl⟩
  have HV9 := Lib.hid hv9
  have HF9 := Lib.hid hf9
  have HX9 := Lib.hid hx9
  have HAP9 := Lib.hid hap9
  have hlt9 : g9 + 1 < wb.heap.size := (Array.getElem?_eq_some_iff.1 hf9).1
  clear hv9 hf9 hx9 hap9
  go_upto_region 2 with (fail)
  go_cut [11] (fun s11 wx => ∃ g11, s11 = .pointer (some ⟨g11, 0, none⟩) ∧ L3 w wx cs g9 c9 ss fc fi g11 0 0)
  case first =>
    go_wp2_with fail
    go_meet
    have hxz : Ext wb (wb.alloc (.cells #[.int .i64 0, .int .i64 0] 30)) := (Ext.refl wb).alloc _
    refine ⟨wb.heap.size, rfl, ext_heap (HX9.out.trans hxz) HV.out.g, (HX.out.trans HX9.out).trans hxz, ext_heap hxz HV9.out.g, ext_heap hxz HF9.out, fun F hF => HAP9.out F fun k hk => (hF k hk).trans (hxz.block k (by omega)), heap_alloc_new wb _, by omega, by omega⟩
  obtain ⟨g11, rfl, hl3⟩ := hcut
  obtain ⟨wd, rfl⟩ : ∃ wd : World, wd = wc := ⟨_, rfl⟩
  have HL3 := Lib.hid hl3
  clear hl3
  go_upto_if 32 with (fail)
  go_cut [] (fun wx => L3 w wx cs g9 c9 ss fc fi g11 fc fi)
  case first =>
    have k0 : wd.cell? ⟨g11, 0, none⟩ = some (.int .i64 0) := blk_cell HL3.out.v11 0
    have k1 : wd.cell? ⟨g11, 1, none⟩ = some (.int .i64 0) := blk_cell HL3.out.v11 1
    by_cases q1 : 256 < l.length
    · have HE : Hid (fc = 3 ∧ fi = -1) := by
        show _ ∧ _
        have := HG.out; unfold startG at this; rw [if_pos q1] at this; cases this; exact ⟨rfl, rfl⟩
      have HL4 := Lib.hid (HL3.out.ext ((Ext.refl wd).alloc (.cells #[.int .i64 3, .int .i64 (-1)] 30)))
      go_wp2_with (first | (go_at_call 8; refine (At_c _ _ _).mono ?_; rintro e w' ⟨rfl, rfl⟩) | refine wpList_store_row rfl 30 _ _ rfl g11 #[.int .i64 3, .int .i64 (-1)] rfl rfl 30 _ HL4.out.v11 size30 rfl (by kernel_rfl) ?_)
      go_meet
      obtain ⟨e1, e2⟩ := HE.out
      have := HL4.out.set11 3 (-1)
      rw [e1, e2] at this ⊢
      exact this
    · by_cases q2 : 1000 < m.length
      · have HE : Hid (fc = 3 ∧ fi = -2) := by
          show _ ∧ _
          have := HG.out; unfold startG at this; rw [if_neg q1, if_pos q2] at this; cases this; exact ⟨rfl, rfl⟩
        have HL4 := Lib.hid (HL3.out.ext ((Ext.refl wd).alloc (.cells #[.int .i64 3, .int .i64 (-2)] 30)))
        go_wp2_with (first | (go_at_call 8; refine (At_c _ _ _).mono ?_; rintro e w' ⟨rfl, rfl⟩) | refine wpList_store_row rfl 30 _ _ rfl g11 #[.int .i64 3, .int .i64 (-2)] rfl rfl 30 _ HL4.out.v11 size30 rfl (by kernel_rfl) ?_)
        go_meet
        obtain ⟨e1, e2⟩ := HE.out
        have := HL4.out.set11 3 (-2)
        rw [e1, e2] at this ⊢
        exact this
      · have HE : Hid (fc = 0 ∧ fi = 0) := by
          show _ ∧ _
          have := HG.out; unfold startG at this; rw [if_neg q1, if_neg q2] at this; cases this; exact ⟨rfl, rfl⟩
        go_wp2_with fail
        go_meet
        obtain ⟨e1, e2⟩ := HE.out
        have := HL3.out
        rw [e1, e2] at this ⊢
        exact this
  obtain ⟨we, rfl⟩ : ∃ we : World, we = wc := ⟨_, rfl⟩
  have HL5 := Lib.hid hcut
  have hlt11 := hcut.lt
  clear hcut
  go_upto_region 7 with (fail)
  go_cut [12] (fun s12 wx => ∃ g12, s12 = .pointer (some ⟨g12, 0, none⟩) ∧ L3 w wx cs g9 c9 ss fc fi g11 fc fi ∧ wx.heap[g12]? = some (.cells zeroSt 28 (0, 0)) ∧ g11 < g12)
  case first =>
    have H28 := Lib.hid (heap_alloc_new we (.cells zeroSt 28))
    go_wp2_with (first | refine wpList_build28 rfl rfl ?_ | refine wpList_alloc28 rfl rfl ?_ | refine wpList_store_row rfl 28 _ _ rfl we.heap.size zeroSt rfl rfl 28 zeroSt H28.out size28 rfl zero_one ?_)
    go_meet
    exact ⟨_, rfl, (HL5.out.ext ((Ext.refl we).alloc _)).setFar hlt11 _, setRow_heap _ _ _ _ _ _ H28.out, hlt11⟩
  obtain ⟨g12, rfl, hl6, hb6, hg12⟩ := hcut
  obtain ⟨wf, rfl⟩ : ∃ wf : World, wf = wc := ⟨_, rfl⟩
  have HL6 := Lib.hid hl6
  have HB6 := Lib.hid hb6
  have k0 : wf.cell? ⟨g11, 0, none⟩ = some (.int .i64 fc) := blk_cell hl6.v11 0
  clear hl6 hb6
  go_upto_if 41 with (fail)
  go_cut [] (fun wx => ∃ cb, L3 w wx cs g9 c9 ss fc fi g11 fc fi ∧ wx.heap[g12]? = some (.cells cb 28 (0, 0)) ∧ StIs wx cb ss)
  case first =>
    by_cases q1 : 256 < l.length
    · have HE : Hid (fc = 3 ∧ ss = st0) := by
        show _ ∧ _
        have := HG.out; unfold startG at this; rw [if_pos q1] at this; cases this; exact ⟨rfl, rfl⟩
      have e0 : (fc == 0) = false := by rw [HE.out.1]; rfl
      go_wp2_with fail
      go_meet
      exact ⟨zeroSt, HL6.out, HB6.out, by rw [HE.out.2]; exact zero_is _⟩
    · by_cases q2 : 1000 < m.length
      · have HE : Hid (fc = 3 ∧ ss = st0) := by
          show _ ∧ _
          have := HG.out; unfold startG at this; rw [if_neg q1, if_pos q2] at this; cases this; exact ⟨rfl, rfl⟩
        have e0 : (fc == 0) = false := by rw [HE.out.1]; rfl
        go_wp2_with fail
        go_meet
        exact ⟨zeroSt, HL6.out, HB6.out, by rw [HE.out.2]; exact zero_is _⟩
      · have HE : Hid (fc = 0 ∧ ss = { st0 with image := l, input := m }) := by
          show _ ∧ _
          have := HG.out; unfold startG at this; rw [if_neg q1, if_neg q2] at this; cases this; exact ⟨rfl, rfl⟩
        have e0 : (fc == 0) = true := by rw [HE.out.1]; rfl
        go_wp2_with (first | refine wpList_build_start rfl _ _ rfl A B l.length m.length c d rfl rfl ?_ | refine wpList_store_row rfl 28 _ _ rfl g12 ((zeroSt.setIfInBounds 0 (.slice A l.length c)).setIfInBounds 36 (.slice B m.length d)) rfl rfl 28 zeroSt HB6.out (start_size ..) (start_sz ..) (start_one ..) ?_)
        go_meet
        have hl7 := HL6.out.setFar hg12 ((zeroSt.setIfInBounds 0 (.slice A l.length c)).setIfInBounds 36 (.slice B m.length d))
        exact ⟨_, hl7, setRow_heap _ _ _ _ _ _ HB6.out, by rw [HE.out.2]; exact start_is HBL.out HBM.out (HSA.out _ hl7.x) (HSB.out _ hl7.x)⟩
  obtain ⟨cb, hl7, hb7, hs7⟩ := hcut
  obtain ⟨wg, rfl⟩ : ∃ wg : World, wg = wc := ⟨_, rfl⟩
  have HL7 := Lib.hid hl7
  have HB7 := Lib.hid hb7
  have HS7 := Lib.hid hs7
  have HZ7 := Lib.hid hs7.size
  have HZ9 := Lib.hid hl7.is.size
  have a0 : wg.cell? ⟨g11, 0, none⟩ = some (.int .i64 fc) := blk_cell hl7.v11 0
  have a1 : wg.cell? ⟨g11, 1, none⟩ = some (.int .i64 fi) := blk_cell hl7.v11 1
  have a2 : wg.cell? ⟨g9 + 1, 0, none⟩ = some (.int .i64 fc) := blk_cell hl7.f9 0
  have a3 : wg.cell? ⟨g9 + 1, 1, none⟩ = some (.int .i64 fi) := blk_cell hl7.f9 1
  clear hl7 hb7 hs7 k0
  go_upto_region 10 with (fail)
  go_cut [53] (fun s53 wx => s53 = .bool false ∧ Var wx w.heap.size cs s ∧ Ext w wx)
  case first =>
    go_wp2_with (first | refine wpList_load_rowg (by rfl) 28 _ rfl g9 (by rfl) 28 c9 (0, 0) _ HL7.out.v9 Tryd.underlying28 rfl (by rw [HZ9.out]; exact size28) ?_ | refine wpList_load_rowg (by rfl) 28 _ rfl g12 (by rfl) 28 cb (0, 0) _ HB7.out Tryd.underlying28 rfl (by rw [HZ7.out]; exact size28) ?_)
    refine (same_c c9 cb ss ss wg HL7.out.is HS7.out).mono ?_
    rw [(sameB_iff _ _).2 rfl]
    rintro e w9 ⟨rfl, hx9⟩
    have HL9 := Lib.hid (HL7.out.ext hx9)
    clear hx9
    go_wp2_with fail
    go_meet
    exact ⟨rfl, ⟨HL9.out.v4, HH.out.ext HL9.out.x⟩, HL9.out.x⟩
  obtain ⟨rfl, hvh, hxh⟩ := hcut
  obtain ⟨wh, rfl⟩ : ∃ wh : World, wh = wc := ⟨_, rfl⟩
  have HVH := Lib.hid hvh
  have HXH := Lib.hid hxh
  clear hvh hxh a0 a1 a2 a3
  go_upto_region 12 with (fail)
  obtain ⟨T, tn, tc, ti, hrt⟩ : ∃ T tn tc ti, runG s n = (T, tn, (tc, ti)) := ⟨_, _, _, _, rfl⟩
  have HRT := Lib.hid hrt
  clear hrt
  have HTH := Lib.hid (HT.out.below HXH.out (tabs_lt HT.out))
  go_upto_region 12 with (fail)
  go_cut [13, 14, 15] (fun s13 s14 s15 wx => ∃ g' cs', s13 = .pointer (some ⟨g', 0, none⟩) ∧ s14 = .int .i64 tn ∧ s15 = .pointer (some ⟨g' + 1, 0, none⟩) ∧ Var wx g' cs' T ∧ wx.heap[g' + 1]? = some (.cells #[.int .i64 tc, .int .i64 ti] 30 (0, 0)) ∧ Ext wh wx)
  case first =>
    have HR := Lib.hid (run_all cs s n wh HVH.out.st HTH.out)
    go_wp2_with (refine wpList_load_row rfl 28 _ rfl w.heap.size rfl 28 cs (0, 0) _ HVH.out.g Tryd.underlying28 rfl (by rw [HS.out]; exact size28) ?_)
    refine HR.out.mono ?_
    rw [HRT.out]
    rintro e w1 ⟨cs', rfl, hst, hx1⟩
    have HA := Lib.hid (asg_mk w1 hst.st tc ti)
    have HS2 := Lib.hid hst.st.size
    have HO := Lib.hid (st_one hst.st)
    have HX1 := Lib.hid hx1
    have H28 := Lib.hid (heap_alloc2_old w1 (.cells zeroSt 28) (.cells #[.int .i64 0, .int .i64 0] 30))
    have H30 := Lib.hid ((setRow_other _ w1.heap.size (w1.heap.size + 1) cs' (by omega)).trans (heap_alloc2_new w1 (.cells zeroSt 28) (.cells #[.int .i64 0, .int .i64 0] 30)))
    clear hst hx1
    simp only [fAgg]
    go_wp2_with (first | refine wpList_alloc28 rfl rfl ?_ | refine wpList_store_row rfl 28 _ _ rfl w1.heap.size cs' rfl rfl 28 zeroSt H28.out (by rw [HS2.out]; exact size28) (by rw [HS2.out]; rfl) HO.out ?_ | refine wpList_store_row rfl 30 _ _ rfl (w1.heap.size + 1) #[.int .i64 tc, .int .i64 ti] rfl rfl 30 _ H30.out size30 rfl (by kernel_rfl) ?_)
    go_meet
    exact ⟨_, cs', rfl, rfl, rfl, HA.out.v, HA.out.f, HX1.out.trans HA.out.x⟩
  obtain ⟨g13, c13, rfl, rfl, rfl, hv13, hf13, hx13⟩ := hcut
  obtain ⟨wi, rfl⟩ : ∃ wi : World, wi = wc := ⟨_, rfl⟩
  have HV13 := Lib.hid hv13
  have HF13 := Lib.hid hf13
  have HXI := Lib.hid (HXH.out.trans hx13)
  have HVI := Lib.hid (HVH.out.ext hx13)
  clear hv13 hf13 hx13
  obtain ⟨U, un, uc, ui, hru⟩ : ∃ U un uc ui, runG s 1 = (U, un, (uc, ui)) := ⟨_, _, _, _, rfl⟩
  have HRU := Lib.hid hru
  have HUF : Hid (faultOf s = (uc, ui)) := by
    show _ = _
    rw [← runG_one s, hru]
  clear hru
  have HTI := Lib.hid (HT.out.below HXI.out (tabs_lt HT.out))
  go_upto_region 13 with (fail)
  go_cut [16, 17] (fun s16 s17 wx => ∃ g' cs', s16 = .pointer (some ⟨g', 0, none⟩) ∧ s17 = .pointer (some ⟨g' + 1, 0, none⟩) ∧ Var wx g' cs' U ∧ wx.heap[g' + 1]? = some (.cells #[.int .i64 uc, .int .i64 ui] 30 (0, 0)) ∧ Ext wi wx)
  case first =>
    have HR := Lib.hid (step_go cs s wi HVI.out.st HTI.out)
    go_wp2_with (refine wpList_load_row rfl 28 _ rfl w.heap.size rfl 28 cs (0, 0) _ HVI.out.g Tryd.underlying28 rfl (by rw [HS.out]; exact size28) ?_)
    refine HR.out.mono ?_
    rw [HRU.out]
    rintro e w1 ⟨cs', rfl, hst, hx1⟩
    have HA := Lib.hid (asg_mk w1 hst.st uc ui)
    have HS2 := Lib.hid hst.st.size
    have HO := Lib.hid (st_one hst.st)
    have HX1 := Lib.hid hx1
    have H28 := Lib.hid (heap_alloc2_old w1 (.cells zeroSt 28) (.cells #[.int .i64 0, .int .i64 0] 30))
    have H30 := Lib.hid ((setRow_other _ w1.heap.size (w1.heap.size + 1) cs' (by omega)).trans (heap_alloc2_new w1 (.cells zeroSt 28) (.cells #[.int .i64 0, .int .i64 0] 30)))
    clear hst hx1
    simp only [fAgg]
    go_wp2_with (first | refine wpList_alloc28 rfl rfl ?_ | refine wpList_store_row rfl 28 _ _ rfl w1.heap.size cs' rfl rfl 28 zeroSt H28.out (by rw [HS2.out]; exact size28) (by rw [HS2.out]; rfl) HO.out ?_ | refine wpList_store_row rfl 30 _ _ rfl (w1.heap.size + 1) #[.int .i64 uc, .int .i64 ui] rfl rfl 30 _ H30.out size30 rfl (by kernel_rfl) ?_)
    go_meet
    exact ⟨_, cs', rfl, rfl, HA.out.v, HA.out.f, HX1.out.trans HA.out.x⟩
  obtain ⟨g16, c16, rfl, rfl, hv16, hf16, hx16⟩ := hcut
  obtain ⟨wj, rfl⟩ : ∃ wj : World, wj = wc := ⟨_, rfl⟩
  have HV16 := Lib.hid hv16
  have HF16 := Lib.hid hf16
  have HXJ := Lib.hid (HXI.out.trans hx16)
  have HVJ := Lib.hid (HVI.out.ext hx16)
  have HV13J := Lib.hid (HV13.out.ext hx16)
  have HF13J := Lib.hid (ext_heap hx16 HF13.out)
  clear hv16 hf16 hx16
  go_upto_region 14 with (fail)
  go_cut [18] (fun s18 wx => ∃ g18, s18 = .pointer (some ⟨g18, 0, none⟩) ∧ wx.heap[g18]? = some (.cells #[.int .i64 uc, .int .i64 ui] 30 (0, 0)) ∧ Ext wj wx ∧ wj.heap.size ≤ g18)
  case first =>
    have HR := Lib.hid (SFault_c cs s wj HVJ.out.st)
    go_wp2_with (refine wpList_load_row rfl 28 _ rfl w.heap.size rfl 28 cs (0, 0) _ HVJ.out.g Tryd.underlying28 rfl (by rw [HS.out]; exact size28) ?_)
    refine HR.out.mono ?_
    rw [HUF.out]
    rintro e w2 ⟨rfl, hx1⟩
    have HX1 := Lib.hid hx1
    have H30 := Lib.hid (heap_alloc_new w2 (.cells #[.int .i64 0, .int .i64 0] 30))
    clear hx1
    simp only [fAgg]
    go_wp2_with (refine wpList_store_row rfl 30 _ _ rfl w2.heap.size #[.int .i64 uc, .int .i64 ui] rfl rfl 30 _ H30.out size30 rfl (by kernel_rfl) ?_)
    go_meet
    first
      | exact ⟨_, rfl, setRow_heap _ _ _ _ _ _ H30.out, (HX1.out.trans ((Ext.refl w2).alloc _)).setRow HX1.out.size _, HX1.out.size⟩
      | exact ⟨_, rfl, heap_alloc_new w2 _, HX1.out.trans ((Ext.refl w2).alloc _), HX1.out.size⟩
  obtain ⟨g18, rfl, hb18, hx18, hg18⟩ := hcut
  obtain ⟨wk, rfl⟩ : ∃ wk : World, wk = wc := ⟨_, rfl⟩
  have HB18 := Lib.hid hb18
  have HXK := Lib.hid (HXJ.out.trans hx18)
  have HVK := Lib.hid (HVJ.out.ext hx18)
  have HV13K := Lib.hid (HV13J.out.ext hx18)
  have HF13K := Lib.hid (ext_heap hx18 HF13J.out)
  have HV16K := Lib.hid (HV16.out.ext hx18)
  have HF16K := Lib.hid (ext_heap hx18 HF16.out)
  clear hb18 hx18
  go_upto_region 15 with (fail)
  go_cut [80] (fun s80 wx => s80 = .bool false ∧ Ext wk wx)
  case first =>
    refine wp_region_any (by kernel_rfl) ?_
    refine wpAny_ready (rs := [0]) (by kernel_rfl) (by simp) ?_
    refine (AllReady.cons rfl (fun K hK => ?_) AllReady.nil)
    · refine step_callg (by simp [Region.wanted, Act.put]) 13 [] #[] rfl [] rfl (fun W => by kernel_rfl) (stacked_c wk.drew (HT.out.below HXK.out.drew (tabs_lt HT.out))) ?_
      rintro e w1 ⟨rfl, hx1⟩
      refine ⟨_, rfl, hK _ _ ?_⟩
      clear hK K
      have HX1 := Lib.hid (((Ext.refl wk).drew).trans hx1)
      have HG1 := Lib.hid (ext_heap HX1.out HVK.out.g)
      have p0 : w1.cell? ⟨g18, 0, none⟩ = some (.int .i64 uc) := blk_cell (ext_heap HX1.out HB18.out) 0
      have p1 : w1.cell? ⟨g18, 1, none⟩ = some (.int .i64 ui) := blk_cell (ext_heap HX1.out HB18.out) 1
      have HVC := Lib.hid (Valid_c cs s w1 (HVK.out.st.ext HX1.out))
      clear hx1
      refine wpAny_ready (rs := [1]) (by kernel_rfl) (by simp) ?_
      refine (AllReady.cons rfl (fun K hK => ?_) AllReady.nil)
      · go_simp
        refine hK _ _ ?_
        clear hK K
        refine wpAny_ready (rs := [2]) (by kernel_rfl) (by simp) ?_
        refine (AllReady.cons rfl (fun K hK => ?_) AllReady.nil)
        · go_simp
          refine hK _ _ ?_
          clear hK K
          refine wpAny_ready (rs := [3, 5]) (by kernel_rfl) (by simp) ?_
          refine (AllReady.cons rfl (fun K hK => ?_) (AllReady.cons rfl (fun K hK => ?_) AllReady.nil))
          · refine step_load_rowg (by simp [Region.wanted, yielded, Act.put]) 28 _ rfl w.heap.size (by simp [Act.eval, Act.put]) 28 cs (0, 0) _ HG1.out Tryd.underlying28 rfl (by rw [HS.out]; exact size28) ?_
            refine hK _ _ ?_
            clear hK K
            refine wpAny_ready (rs := [4, 5]) (by kernel_rfl) (by simp) ?_
            refine (AllReady.cons rfl (fun K hK => ?_) (AllReady.cons rfl (fun K hK => ?_) AllReady.nil))
            · refine step_callg (by simp [Region.wanted, yielded, Act.put]) 14 [.tmp 71] #[28] rfl [.agg cs] (by simp [Act.eval, Act.put]) (fun W => by kernel_rfl) HVC.out ?_
              rw [HUF.out]
              rintro e w2 ⟨rfl, hx2⟩
              refine ⟨_, rfl, hK _ _ ?_⟩
              clear hK K
              simp only [fAgg]
              have HX2 := Lib.hid (HX1.out.trans hx2)
              have q0 : w2.cell? ⟨g18, 0, none⟩ = some (.int .i64 uc) := blk_cell (ext_heap HX2.out HB18.out) 0
              have q1 : w2.cell? ⟨g18, 1, none⟩ = some (.int .i64 ui) := blk_cell (ext_heap HX2.out HB18.out) 1
              have r0 : w2.cell? ⟨g16 + 1, 0, none⟩ = some (.int .i64 uc) := blk_cell (ext_heap HX2.out HF16K.out) 0
              have r1 : w2.cell? ⟨g16 + 1, 1, none⟩ = some (.int .i64 ui) := blk_cell (ext_heap HX2.out HF16K.out) 1
              clear hx2 p0 p1
              refine wpAny_ready (rs := [5]) (by kernel_rfl) (by simp) ?_
              refine (AllReady.cons rfl (fun K hK => ?_) AllReady.nil)
              · go_simp
                refine hK _ _ ?_
                clear hK K
                refine wpAny_ready (rs := [6]) (by kernel_rfl) (by simp) ?_
                refine (AllReady.cons rfl (fun K hK => ?_) AllReady.nil)
                · go_simp
                  refine hK _ _ ?_
                  clear hK K
                  refine wpAny_ready (rs := [7]) (by kernel_rfl) (by simp) ?_
                  refine (AllReady.cons rfl (fun K hK => ?_) AllReady.nil)
                  · go_simp
                    refine hK _ _ ?_
                    clear hK K
                    refine wpAny_ready (rs := [8]) (by kernel_rfl) (by simp) ?_
                    refine (AllReady.cons rfl (fun K hK => ?_) AllReady.nil)
                    · go_simp
                      refine hK _ _ ?_
                      clear hK K
                      refine wpAny_ready (rs := [9, 10]) (by kernel_rfl) (by simp) ?_
                      refine (AllReady.cons rfl (fun K hK => ?_) (AllReady.cons rfl (fun K hK => ?_) AllReady.nil))
                      · go_simp
                        refine hK _ _ ?_
                        clear hK K
                        refine wpAny_ready (rs := [10]) (by kernel_rfl) (by simp) ?_
                        refine (AllReady.cons rfl (fun K hK => ?_) AllReady.nil)
                        · go_simp
                          refine hK _ _ ?_
                          clear hK K
                          refine wpAny_ready (rs := [11]) (by kernel_rfl) (by simp) ?_
                          refine (AllReady.cons rfl (fun K hK => ?_) AllReady.nil)
                          · go_simp
                            refine hK _ _ ?_
                            clear hK K
                            refine wpAny_ready (rs := [12]) (by kernel_rfl) (by simp) ?_
                            refine (AllReady.cons rfl (fun K hK => ?_) AllReady.nil)
                            · go_simp
                              refine hK _ _ ?_
                              clear hK K
                              refine wpAny_done (by kernel_rfl) ?_ _
                              go_wp2_with fail
                              go_meet
                              exact ⟨rfl, HX2.out⟩
                      · go_simp
                        refine hK _ _ ?_
                        clear hK K
                        refine wpAny_ready (rs := [9]) (by kernel_rfl) (by simp) ?_
                        refine (AllReady.cons rfl (fun K hK => ?_) AllReady.nil)
                        · go_simp
                          refine hK _ _ ?_
                          clear hK K
                          refine wpAny_ready (rs := [11]) (by kernel_rfl) (by simp) ?_
                          refine (AllReady.cons rfl (fun K hK => ?_) AllReady.nil)
                          · go_simp
                            refine hK _ _ ?_
                            clear hK K
                            refine wpAny_ready (rs := [12]) (by kernel_rfl) (by simp) ?_
                            refine (AllReady.cons rfl (fun K hK => ?_) AllReady.nil)
                            · go_simp
                              refine hK _ _ ?_
                              clear hK K
                              refine wpAny_done (by kernel_rfl) ?_ _
                              go_wp2_with fail
                              go_meet
                              exact ⟨rfl, HX2.out⟩
            · go_simp
              refine hK _ _ ?_
              clear hK K
              refine wpAny_ready (rs := [4]) (by kernel_rfl) (by simp) ?_
              refine (AllReady.cons rfl (fun K hK => ?_) AllReady.nil)
              · refine step_callg (by simp [Region.wanted, yielded, Act.put]) 14 [.tmp 71] #[28] rfl [.agg cs] (by simp [Act.eval, Act.put]) (fun W => by kernel_rfl) HVC.out ?_
                rw [HUF.out]
                rintro e w2 ⟨rfl, hx2⟩
                refine ⟨_, rfl, hK _ _ ?_⟩
                clear hK K
                simp only [fAgg]
                have HX2 := Lib.hid (HX1.out.trans hx2)
                have q0 : w2.cell? ⟨g18, 0, none⟩ = some (.int .i64 uc) := blk_cell (ext_heap HX2.out HB18.out) 0
                have q1 : w2.cell? ⟨g18, 1, none⟩ = some (.int .i64 ui) := blk_cell (ext_heap HX2.out HB18.out) 1
                have r0 : w2.cell? ⟨g16 + 1, 0, none⟩ = some (.int .i64 uc) := blk_cell (ext_heap HX2.out HF16K.out) 0
                have r1 : w2.cell? ⟨g16 + 1, 1, none⟩ = some (.int .i64 ui) := blk_cell (ext_heap HX2.out HF16K.out) 1
                clear hx2 p0 p1
                refine wpAny_ready (rs := [6]) (by kernel_rfl) (by simp) ?_
                refine (AllReady.cons rfl (fun K hK => ?_) AllReady.nil)
                · go_simp
                  refine hK _ _ ?_
                  clear hK K
                  refine wpAny_ready (rs := [7]) (by kernel_rfl) (by simp) ?_
                  refine (AllReady.cons rfl (fun K hK => ?_) AllReady.nil)
                  · go_simp
                    refine hK _ _ ?_
                    clear hK K
                    refine wpAny_ready (rs := [8]) (by kernel_rfl) (by simp) ?_
                    refine (AllReady.cons rfl (fun K hK => ?_) AllReady.nil)
                    · go_simp
                      refine hK _ _ ?_
                      clear hK K
                      refine wpAny_ready (rs := [9, 10]) (by kernel_rfl) (by simp) ?_
                      refine (AllReady.cons rfl (fun K hK => ?_) (AllReady.cons rfl (fun K hK => ?_) AllReady.nil))
                      · go_simp
                        refine hK _ _ ?_
                        clear hK K
                        refine wpAny_ready (rs := [10]) (by kernel_rfl) (by simp) ?_
                        refine (AllReady.cons rfl (fun K hK => ?_) AllReady.nil)
                        · go_simp
                          refine hK _ _ ?_
                          clear hK K
                          refine wpAny_ready (rs := [11]) (by kernel_rfl) (by simp) ?_
                          refine (AllReady.cons rfl (fun K hK => ?_) AllReady.nil)
                          · go_simp
                            refine hK _ _ ?_
                            clear hK K
                            refine wpAny_ready (rs := [12]) (by kernel_rfl) (by simp) ?_
                            refine (AllReady.cons rfl (fun K hK => ?_) AllReady.nil)
                            · go_simp
                              refine hK _ _ ?_
                              clear hK K
                              refine wpAny_done (by kernel_rfl) ?_ _
                              go_wp2_with fail
                              go_meet
                              exact ⟨rfl, HX2.out⟩
                      · go_simp
                        refine hK _ _ ?_
                        clear hK K
                        refine wpAny_ready (rs := [9]) (by kernel_rfl) (by simp) ?_
                        refine (AllReady.cons rfl (fun K hK => ?_) AllReady.nil)
                        · go_simp
                          refine hK _ _ ?_
                          clear hK K
                          refine wpAny_ready (rs := [11]) (by kernel_rfl) (by simp) ?_
                          refine (AllReady.cons rfl (fun K hK => ?_) AllReady.nil)
                          · go_simp
                            refine hK _ _ ?_
                            clear hK K
                            refine wpAny_ready (rs := [12]) (by kernel_rfl) (by simp) ?_
                            refine (AllReady.cons rfl (fun K hK => ?_) AllReady.nil)
                            · go_simp
                              refine hK _ _ ?_
                              clear hK K
                              refine wpAny_done (by kernel_rfl) ?_ _
                              go_wp2_with fail
                              go_meet
                              exact ⟨rfl, HX2.out⟩
          · go_simp
            refine hK _ _ ?_
            clear hK K
            refine wpAny_ready (rs := [3]) (by kernel_rfl) (by simp) ?_
            refine (AllReady.cons rfl (fun K hK => ?_) AllReady.nil)
            · refine step_load_rowg (by simp [Region.wanted, yielded, Act.put]) 28 _ rfl w.heap.size (by simp [Act.eval, Act.put]) 28 cs (0, 0) _ HG1.out Tryd.underlying28 rfl (by rw [HS.out]; exact size28) ?_
              refine hK _ _ ?_
              clear hK K
              refine wpAny_ready (rs := [4]) (by kernel_rfl) (by simp) ?_
              refine (AllReady.cons rfl (fun K hK => ?_) AllReady.nil)
              · refine step_callg (by simp [Region.wanted, yielded, Act.put]) 14 [.tmp 71] #[28] rfl [.agg cs] (by simp [Act.eval, Act.put]) (fun W => by kernel_rfl) HVC.out ?_
                rw [HUF.out]
                rintro e w2 ⟨rfl, hx2⟩
                refine ⟨_, rfl, hK _ _ ?_⟩
                clear hK K
                simp only [fAgg]
                have HX2 := Lib.hid (HX1.out.trans hx2)
                have q0 : w2.cell? ⟨g18, 0, none⟩ = some (.int .i64 uc) := blk_cell (ext_heap HX2.out HB18.out) 0
                have q1 : w2.cell? ⟨g18, 1, none⟩ = some (.int .i64 ui) := blk_cell (ext_heap HX2.out HB18.out) 1
                have r0 : w2.cell? ⟨g16 + 1, 0, none⟩ = some (.int .i64 uc) := blk_cell (ext_heap HX2.out HF16K.out) 0
                have r1 : w2.cell? ⟨g16 + 1, 1, none⟩ = some (.int .i64 ui) := blk_cell (ext_heap HX2.out HF16K.out) 1
                clear hx2 p0 p1
                refine wpAny_ready (rs := [6]) (by kernel_rfl) (by simp) ?_
                refine (AllReady.cons rfl (fun K hK => ?_) AllReady.nil)
                · go_simp
                  refine hK _ _ ?_
                  clear hK K
                  refine wpAny_ready (rs := [7]) (by kernel_rfl) (by simp) ?_
                  refine (AllReady.cons rfl (fun K hK => ?_) AllReady.nil)
                  · go_simp
                    refine hK _ _ ?_
                    clear hK K
                    refine wpAny_ready (rs := [8]) (by kernel_rfl) (by simp) ?_
                    refine (AllReady.cons rfl (fun K hK => ?_) AllReady.nil)
                    · go_simp
                      refine hK _ _ ?_
                      clear hK K
                      refine wpAny_ready (rs := [9, 10]) (by kernel_rfl) (by simp) ?_
                      refine (AllReady.cons rfl (fun K hK => ?_) (AllReady.cons rfl (fun K hK => ?_) AllReady.nil))
                      · go_simp
                        refine hK _ _ ?_
                        clear hK K
                        refine wpAny_ready (rs := [10]) (by kernel_rfl) (by simp) ?_
                        refine (AllReady.cons rfl (fun K hK => ?_) AllReady.nil)
                        · go_simp
                          refine hK _ _ ?_
                          clear hK K
                          refine wpAny_ready (rs := [11]) (by kernel_rfl) (by simp) ?_
                          refine (AllReady.cons rfl (fun K hK => ?_) AllReady.nil)
                          · go_simp
                            refine hK _ _ ?_
                            clear hK K
                            refine wpAny_ready (rs := [12]) (by kernel_rfl) (by simp) ?_
                            refine (AllReady.cons rfl (fun K hK => ?_) AllReady.nil)
                            · go_simp
                              refine hK _ _ ?_
                              clear hK K
                              refine wpAny_done (by kernel_rfl) ?_ _
                              go_wp2_with fail
                              go_meet
                              exact ⟨rfl, HX2.out⟩
                      · go_simp
                        refine hK _ _ ?_
                        clear hK K
                        refine wpAny_ready (rs := [9]) (by kernel_rfl) (by simp) ?_
                        refine (AllReady.cons rfl (fun K hK => ?_) AllReady.nil)
                        · go_simp
                          refine hK _ _ ?_
                          clear hK K
                          refine wpAny_ready (rs := [11]) (by kernel_rfl) (by simp) ?_
                          refine (AllReady.cons rfl (fun K hK => ?_) AllReady.nil)
                          · go_simp
                            refine hK _ _ ?_
                            clear hK K
                            refine wpAny_ready (rs := [12]) (by kernel_rfl) (by simp) ?_
                            refine (AllReady.cons rfl (fun K hK => ?_) AllReady.nil)
                            · go_simp
                              refine hK _ _ ?_
                              clear hK K
                              refine wpAny_done (by kernel_rfl) ?_ _
                              go_wp2_with fail
                              go_meet
                              exact ⟨rfl, HX2.out⟩
  obtain ⟨rfl, hxl⟩ := hcut
  obtain ⟨wl, rfl⟩ : ∃ wl : World, wl = wc := ⟨_, rfl⟩
  have HXL := Lib.hid (HXK.out.trans hxl)
  have HVL := Lib.hid (HVK.out.ext hxl)
  have HV13L := Lib.hid (HV13K.out.ext hxl)
  have HV16L := Lib.hid (HV16K.out.ext hxl)
  have HF13L := Lib.hid (ext_heap hxl HF13K.out)
  have HB18L := Lib.hid (ext_heap hxl HB18.out)
  have HZ13 := Lib.hid HV13.out.st.size
  have HZ16 := Lib.hid HV16.out.st.size
  have hg13 : g13 + 1 < g18 := by have := (Array.getElem?_eq_some_iff.1 HF13J.out).1; omega
  have hg4 : w.heap.size < g18 := by have := (Array.getElem?_eq_some_iff.1 HVJ.out.g).1; omega
  clear hxl
  by_cases hz : uc = 0
  · have hgood : faultOf s = (0, 0) := by
      by_cases hq : faultOf s = (0, 0)
      · exact hq
      · exact absurd (by rw [HUF.out]; exact hz) (fault_code hq)
    have hui : ui = 0 := by have := HUF.out; rw [hgood] at this; cases this; rfl
    subst hz
    subst hui
    have HOK := Lib.hid (ok_of HH.out hgood)
    have hU : U = (runF 1 s).1 := by have := HRU.out; rw [runG_good hgood (by decide)] at this; cases this; rfl
    subst hU
    have HGOOD := Lib.hid hgood
    clear hgood
    have p0 : wl.cell? ⟨g18, 0, none⟩ = some (.int .i64 0) := blk_cell HB18L.out 0
    have p1 : wl.cell? ⟨g18, 1, none⟩ = some (.int .i64 0) := blk_cell HB18L.out 1
    go_upto_region 18 with (fail)
    go_cut [19, 20] (fun s19 s20 wx => ∃ g' cs', s19 = .pointer (some ⟨g', 0, none⟩) ∧ s20 = .int .i64 ((runF 1 s).2 : Int) ∧ Var wx g' cs' (runF 1 s).1 ∧ Ext wl wx)
    case first =>
      have HR := Lib.hid (ran_c cs s 1 wl HVL.out.st HOK.out (by omega))
      go_wp2_with (refine wpList_load_row rfl 28 _ rfl w.heap.size rfl 28 cs (0, 0) _ HVL.out.g Tryd.underlying28 rfl (by rw [HS.out]; exact size28) ?_)
      refine HR.out.mono ?_
      rintro e w1 ⟨cs', rfl, hst, hx1⟩
      have HA := Lib.hid (asg28 w1 hst)
      have HS2 := Lib.hid hst.size
      have HO := Lib.hid (st_one hst)
      have HX1 := Lib.hid hx1
      have H28 := Lib.hid (heap_alloc_new w1 (.cells zeroSt 28))
      clear hst hx1
      go_wp2_with (first | refine wpList_alloc28 rfl rfl ?_ | refine wpList_store_row rfl 28 _ _ rfl w1.heap.size cs' rfl rfl 28 zeroSt H28.out (by rw [HS2.out]; exact size28) (by rw [HS2.out]; rfl) HO.out ?_)
      go_meet
      exact ⟨_, cs', rfl, rfl, HA.out.1, HX1.out.trans HA.out.2⟩
    obtain ⟨g19, c19, rfl, rfl, hv19, hx19⟩ := hcut
    obtain ⟨wm, rfl⟩ : ∃ wm : World, wm = wc := ⟨_, rfl⟩
    have HV19 := Lib.hid hv19
    have HZ19 := Lib.hid hv19.st.size
    have HXM := Lib.hid (HXL.out.trans hx19)
    have HVM := Lib.hid (HVL.out.ext hx19)
    have HV13M := Lib.hid (HV13L.out.ext hx19)
    have HV16M := Lib.hid (HV16L.out.ext hx19)
    have HF13M := Lib.hid (ext_heap hx19 HF13L.out)
    have HB18M := Lib.hid (ext_heap hx19 HB18L.out)
    clear hv19 hx19 p0 p1
    go_upto_region 19 with (fail)
    go_cut [92] (fun s92 wx => s92 = .bool false ∧ Ext wm wx)
    case first =>
      go_wp2_with (first | refine wpList_load_row rfl 28 _ rfl g16 rfl 28 c16 (0, 0) _ HV16M.out.g Tryd.underlying28 rfl (by rw [HZ16.out]; exact size28) ?_ | refine wpList_load_row rfl 28 _ rfl g19 rfl 28 c19 (0, 0) _ HV19.out.g Tryd.underlying28 rfl (by rw [HZ19.out]; exact size28) ?_)
      refine (same_c c16 c19 _ _ wm HV16M.out.st HV19.out.st).mono ?_
      rw [(sameB_iff _ _).2 rfl]
      rintro e w9 ⟨rfl, hx9⟩
      have HX9 := Lib.hid hx9
      clear hx9
      go_wp2_with fail
      go_meet
      exact ⟨rfl, HX9.out⟩
    obtain ⟨rfl, hxn⟩ := hcut
    obtain ⟨wn, rfl⟩ : ∃ wn : World, wn = wc := ⟨_, rfl⟩
    have HXN := Lib.hid (HXM.out.trans hxn)
    have HVN := Lib.hid (HVM.out.ext hxn)
    have HV13N := Lib.hid (HV13M.out.ext hxn)
    have HF13N := Lib.hid (ext_heap hxn HF13M.out)
    have HB18N := Lib.hid (ext_heap hxn HB18M.out)
    clear hxn
    by_cases hr : 0 ≤ n ∧ n ≤ 60000
    · have hin : inB n 0 60000 = true := inB_true hr.1 hr.2
      have hRT := HRT.out
      rw [runG_good HGOOD.out hr] at hRT
      obtain ⟨N, rfl⟩ : ∃ N : Nat, n = N := ⟨n.toNat, by omega⟩
      rw [Int.toNat_natCast] at hRT
      have hT : T = (runF N s).1 := by cases hRT; rfl
      have htn : tn = ((runF N s).2 : Int) := by cases hRT; rfl
      have htc : tc = 0 := by cases hRT; rfl
      have hti : ti = 0 := by cases hRT; rfl
      clear hRT
      subst hT; subst htn; subst htc; subst hti
      have hNl : N ≤ 60000 := by omega
      have p0 : wn.cell? ⟨g18, 0, none⟩ = some (.int .i64 0) := blk_cell HB18N.out 0
      have p1 : wn.cell? ⟨g18, 1, none⟩ = some (.int .i64 0) := blk_cell HB18N.out 1
      have p2 : wn.cell? ⟨g13 + 1, 0, none⟩ = some (.int .i64 0) := blk_cell HF13N.out 0
      have p3 : wn.cell? ⟨g13 + 1, 1, none⟩ = some (.int .i64 0) := blk_cell HF13N.out 1
      clear hr
      go_upto_region 27 with (go_at_call 16; refine (In_c _ _ _ _).mono ?_; rintro e w' ⟨rfl, rfl⟩)
      go_cut [21, 22] (fun s21 s22 wx => ∃ g' cs', s21 = .pointer (some ⟨g', 0, none⟩) ∧ s22 = .int .i64 ((runF N s).2 : Int) ∧ Var wx g' cs' (runF N s).1 ∧ Ext wn wx)
      case first =>
        have HR := Lib.hid (ran_c cs s N wn HVN.out.st HOK.out hNl)
        go_wp2_with (refine wpList_load_row rfl 28 _ rfl w.heap.size rfl 28 cs (0, 0) _ HVN.out.g Tryd.underlying28 rfl (by rw [HS.out]; exact size28) ?_)
        refine HR.out.mono ?_
        rintro e w1 ⟨cs', rfl, hst, hx1⟩
        have HA := Lib.hid (asg28 w1 hst)
        have HS2 := Lib.hid hst.size
        have HO := Lib.hid (st_one hst)
        have HX1 := Lib.hid hx1
        have H28 := Lib.hid (heap_alloc_new w1 (.cells zeroSt 28))
        clear hst hx1
        go_wp2_with (first | refine wpList_alloc28 rfl rfl ?_ | refine wpList_store_row rfl 28 _ _ rfl w1.heap.size cs' rfl rfl 28 zeroSt H28.out (by rw [HS2.out]; exact size28) (by rw [HS2.out]; rfl) HO.out ?_)
        go_meet
        exact ⟨_, cs', rfl, rfl, HA.out.1, HX1.out.trans HA.out.2⟩
      obtain ⟨g21, c21, rfl, rfl, hv21, hx21⟩ := hcut
      obtain ⟨wo, rfl⟩ : ∃ wo : World, wo = wc := ⟨_, rfl⟩
      have HV21 := Lib.hid hv21
      have HZ21 := Lib.hid hv21.st.size
      have HXO := Lib.hid (HXN.out.trans hx21)
      have HV13O := Lib.hid (HV13N.out.ext hx21)
      clear hv21 hx21 p0 p1 p2 p3
      go_wp2_with (first | refine wpList_load_rowg (by rfl) 28 _ rfl g13 (by rfl) 28 c13 (0, 0) _ HV13O.out.g Tryd.underlying28 rfl (by rw [HZ13.out]; exact size28) ?_ | refine wpList_load_rowg (by rfl) 28 _ rfl g21 (by rfl) 28 c21 (0, 0) _ HV21.out.g Tryd.underlying28 rfl (by rw [HZ21.out]; exact size28) ?_)
      refine (same_c c13 c21 _ _ wo HV13O.out.st HV21.out.st).mono ?_
      rw [(sameB_iff _ _).2 rfl]
      rintro e w9 ⟨rfl, hx9⟩
      have HX9 := Lib.hid (HXO.out.trans hx9)
      clear hx9
      go_wp2_with fail
      go_ret
      exact ⟨rfl, HX9.out⟩
    · have hin : inB n 0 60000 = false := inB_false hr
      have hRT := HRT.out
      rw [runG_range HGOOD.out hr] at hRT
      have hT : T = st0 := by cases hRT; rfl
      have htn : tn = 0 := by cases hRT; rfl
      have htc : tc = 4 := by cases hRT; rfl
      have hti : ti = -2 := by cases hRT; rfl
      clear hRT hr
      subst hT; subst htn; subst htc; subst hti
      have hxz : Ext wn (wn.alloc (.cells #[.int .i64 4, .int .i64 (-2)] 30)) := (Ext.refl wn).alloc _
      have H18 := Lib.hid (ext_heap hxz HB18N.out)
      have H13 := Lib.hid (ext_heap hxz HF13N.out)
      have H13g := Lib.hid (ext_heap hxz HV13N.out.g)
      have HXZ := Lib.hid (HXN.out.trans hxz)
      clear hxz
      go_upto_region 23 with (first | (go_at_call 16; refine (In_c _ _ _ _).mono ?_; rintro e w' ⟨rfl, rfl⟩) | (go_at_call 8; refine (At_c _ _ _).mono ?_; rintro e w' ⟨rfl, rfl⟩) | refine wpList_store_row rfl 30 _ _ rfl g18 #[.int .i64 4, .int .i64 (-2)] rfl rfl 30 _ H18.out size30 rfl (by kernel_rfl) ?_)
      refine wp_world (fun wx => wx.heap[g18]? = some (.cells #[.int .i64 4, .int .i64 (-2)] 30 (0, 0)) ∧ wx.heap[g13 + 1]? = some (.cells #[.int .i64 4, .int .i64 (-2)] 30 (0, 0)) ∧ wx.heap[g13]? = some (.cells c13 28 (0, 0)) ∧ Ext w wx) ⟨setRow_heap _ _ _ _ _ _ H18.out, (setRow_other _ _ _ _ (by omega)).trans H13.out, (setRow_other _ _ _ _ (by omega)).trans H13g.out, HXZ.out.setRow (by omega) _⟩ ?_
      rintro wp ⟨j1, j2, j3, j4⟩
      have p0 : wp.cell? ⟨g18, 0, none⟩ = some (.int .i64 4) := blk_cell j1 0
      have p1 : wp.cell? ⟨g18, 1, none⟩ = some (.int .i64 (-2)) := blk_cell j1 1
      have p2 : wp.cell? ⟨g13 + 1, 0, none⟩ = some (.int .i64 4) := blk_cell j2 0
      have p3 : wp.cell? ⟨g13 + 1, 1, none⟩ = some (.int .i64 (-2)) := blk_cell j2 1
      have J3 := Lib.hid j3
      have J4 := Lib.hid j4
      clear j1 j2 j3 j4
      go_wp2_with (first | refine wpList_load_rowg (by rfl) 28 _ rfl g13 (by rfl) 28 c13 (0, 0) _ J3.out Tryd.underlying28 rfl (by rw [HZ13.out]; exact size28) ?_ | refine wpList_build28g (by rfl) rfl ?_)
      refine (same_c c13 zeroSt st0 st0 _ (st0_any HV13N.out.st) (zero_is _)).mono ?_
      rw [(sameB_iff _ _).2 rfl]
      rintro e w9 ⟨rfl, hx9⟩
      have HX9 := Lib.hid (J4.out.trans hx9)
      clear hx9
      go_wp2_with fail
      go_ret
      exact ⟨rfl, HX9.out⟩
  · have hgb := runG_bad (n := n) HUF.out hz
    have hRT := HRT.out
    rw [hgb] at hRT
    have hT : T = st0 := by cases hRT; rfl
    have htn : tn = 0 := by cases hRT; rfl
    have htc : tc = uc := by cases hRT; rfl
    have hti : ti = ui := by cases hRT; rfl
    clear hRT hgb
    subst hT; subst htn; subst htc; subst hti
    have m1 : (tc == 0) = false := by simpa using hz
    have m2 : (tc != 0) = true := by simpa using hz
    have p0 : wl.cell? ⟨g18, 0, none⟩ = some (.int .i64 tc) := blk_cell HB18L.out 0
    have p1 : wl.cell? ⟨g18, 1, none⟩ = some (.int .i64 ti) := blk_cell HB18L.out 1
    have p2 : wl.cell? ⟨g13 + 1, 0, none⟩ = some (.int .i64 tc) := blk_cell HF13L.out 0
    have p3 : wl.cell? ⟨g13 + 1, 1, none⟩ = some (.int .i64 ti) := blk_cell HF13L.out 1
    go_wp2_with (first | refine wpList_load_rowg (by rfl) 28 _ rfl g13 (by rfl) 28 c13 (0, 0) _ HV13L.out.g Tryd.underlying28 rfl (by rw [HZ13.out]; exact size28) ?_ | refine wpList_build28g (by rfl) rfl ?_)
    refine (same_c c13 zeroSt st0 st0 _ HV13L.out.st (zero_is _)).mono ?_
    rw [(sameB_iff _ _).2 rfl]
    rintro e w9 ⟨rfl, hx9⟩
    have HX9 := Lib.hid (HXL.out.trans hx9)
    clear hx9
    go_wp2_with fail
    go_ret
    exact ⟨rfl, HX9.out⟩
end Go.Proofs.YtpooedfchjpndaaDoor
