import Derived.Test.YtbaahbpianingaaGreatDoorTzC
import Derived.Test.YtbaahbpianingaaGreatDoorMg22
namespace Go.Proofs.YtbaahbpianingaaGreatDoor
open Go Go.Proofs Go.RowKit
open Tape (Rule Ts)
set_option maxHeartbeats 12800000
set_option maxRecDepth 100000
theorem sameTB_refl (a : Ts) : sameTB a a = true := by unfold sameTB; simp
theorem step_load_rowg {P : Program} {W : World} {ops : Array Oper} {o : Oper} {a : Act} {K : Act → World → Prop} {Q : Exit → Act → World → Prop} {E : Prop} (hw : Region.wanted o (yielded ops a.tmps) = true) (ty : TypeId) (x : Operand) (ho : o.op = .load ty x)
    (g : Nat) (hx : a.eval x = .pointer (some ⟨g, 0, none⟩)) (t : TypeId) (cs : Array Value) (fr : Nat × Nat) (d : TypeDesc) (hg : W.heap[g]? = some (.cells cs t fr))
    (hu : P.underlying ty = some d) (hd : (match d with | .struct _ | .array _ _ => true | _ => false) = true) (hi : (P.info? ty).map (·.size) = some cs.size)
    (h : K (a.put o.dst (.agg cs)) W) : if Region.wanted o (yielded ops a.tmps) = true then Oper.wp P o a W K Q else E := by
  rw [if_pos hw]
  exact wp_load_row ty x ho g hx t cs fr d hg hu hd hi h
theorem step_callg {P : Program} {W : World} {ops : Array Oper} {o : Oper} {a : Act} {K : Act → World → Prop} {Q : Exit → Act → World → Prop} {E : Prop} (hw : Region.wanted o (yielded ops a.tmps) = true) (f : FuncId) (args : List Operand) (ts : Array TypeId)
    (ho : o.op = .call { callee := .value (.func f), args := args.toArray, argTypes := ts }) (vs : List Value) (hvs : args.map a.eval = vs) (hf : ∀ W : World, (callFunc f vs.toArray).run P W = .ok (.enter f vs.toArray) W) {R : Ending → World → Prop} (hc : Calls P f vs.toArray W R)
    (h : ∀ e w', R e w' → ∃ v, e = .returned v ∧ K (a.put o.dst v) w') : if Region.wanted o (yielded ops a.tmps) = true then Oper.wp P o a W K Q else E := by
  rw [if_pos hw]
  unfold Oper.wp
  have hr : (execOp a.eval o).run P W = .ok (.enter f vs.toArray) W := by
    rw [← hf W, ← hvs]
    simp [execOp, ho, resolve, Deferred.ofValue, Act.eval, invoke]
  rw [hr]
  exact hc.mono fun e w' hR => by
    obtain ⟨v, rfl, hk⟩ := h e w' hR
    exact hk
theorem startMatch_c (A B : Option Addr) (L : List Rule) (l : List Int) (c' d' : Nat) (cs : Array Value) (s : Ts) (w : World) (hl1 : L.length ≤ c') (hl2 : c' ≤ maxLen) (hA : A = none → c' = 0) (h1 : Rls w A L) (hwf : ∀ r ∈ L, RuleWf r)
    (hm1 : l.length ≤ d') (hm2 : d' ≤ maxLen) (hB : B = none → d' = 0) (h2 : Sl w .i64 B l) (hwl : ∀ x ∈ l, I64 x) (h : TsIs w cs s) (ht : TabT w) :
    Calls Tryz.prog 3 #[.slice A L.length c', .slice B l.length d', .agg cs] w (BRet w true) := by
  have HT := Lib.hid ht
  have HH := Lib.hid h
  have HST := Lib.hid (fun (W : World) (x : Ext w W) => startT_all A B L l c' d' W (Nat.le_trans hl1 hl2) (h1.ext x) hwf (Nat.le_trans hm1 hm2) hA (Sl.ext h2 x))
  have HSF := Lib.hid (fun (W : World) (x : Ext w W) => startFault_c A B L l c' d' W (Nat.le_trans hl1 hl2) (h1.ext x) hwf (Nat.le_trans hm1 hm2) (Sl.ext h2 x))
  have HSD := Lib.hid (fun (W : World) (x : Ext w W) => started_c A B L l c' d' w W x hl1 hl2 hA h1 hwf hm1 hm2 hB h2 hwl)
  obtain ⟨S0, vc, vi, hs0⟩ : ∃ S0 vc vi, startGT L l = (S0, (vc, vi)) := ⟨_, _, _, rfl⟩
  have HS0 := Lib.hid hs0
  obtain ⟨J, hj⟩ : ∃ J, (tapeG s).1 = J := ⟨_, rfl⟩
  have HJ := Lib.hid hj
  obtain ⟨M, hmm⟩ : ∃ M, (mirrorG s).1 = M := ⟨_, rfl⟩
  have HMM := Lib.hid hmm
  obtain ⟨uc, ui, huf⟩ : ∃ uc ui, faultT s = (uc, ui) := ⟨_, _, rfl⟩
  have HUF := Lib.hid huf
  have HTG : Hid (tapeG s = (J, (uc, ui))) := Lib.hid (by rw [← huf, ← hj]; unfold tapeG; split <;> simp_all)
  have HMG : Hid (mirrorG s = (M, (uc, ui))) := Lib.hid (by rw [← huf, ← hmm]; unfold mirrorG; split <;> simp_all)
  obtain ⟨jl, hjl⟩ : ∃ jl, jl = J.length := ⟨_, rfl⟩
  have HJL := Lib.hid hjl
  obtain ⟨n, hn⟩ : ∃ n, n = L.length := ⟨_, rfl⟩
  obtain ⟨m, hm⟩ : ∃ m, m = l.length := ⟨_, rfl⟩
  rw [← hn, ← hm] at HST HSF HSD
  rw [← hn, ← hm]
  clear ht h hl1 hl2 hA h1 hwf hm1 hm2 hB h2 hwl hs0 hj hmm huf hjl hn hm
  go_enter Tryz.func3, Tryz.ntmps3
  go_upto_region 0 with (fail)
  go_cut [5, 6] (fun s2 s4 wx => s2 = .pointer (some ⟨w.heap.size, 0, none⟩) ∧ s4 = .bool false ∧ VarT wx w.heap.size cs s ∧ Ext w wx)
  case first =>
    go_wp2_with fail
    go_meet
    exact ⟨rfl, rfl, ⟨heap_alloc_new w _, HH.out.ext ((Ext.refl w).alloc _)⟩, (Ext.refl w).alloc _⟩
  obtain ⟨rfl, rfl, hv, hx⟩ := hcut
  obtain ⟨g5, hg2⟩ : ∃ g5, w.heap.size = g5 := ⟨_, rfl⟩
  obtain ⟨cs5, hcs2⟩ : ∃ cs5, cs = cs5 := ⟨_, rfl⟩
  rw [hg2, hcs2] at hv
  rw [hg2]
  have HG5 : Hid (w.heap.size ≤ g5) := Lib.hid (Nat.le_of_eq hg2)
  clear HH hg2 hcs2
  obtain ⟨v1, rfl⟩ : ∃ v1 : World, v1 = wc := ⟨_, rfl⟩
  have HX := Lib.hid hx
  have HV5 := Lib.hid hv
  have HC5 := Lib.hid hv.st.size
  clear hv hx
  go_upto_region 1 with (fail)
  go_cut [7, 8] (fun sa sb wx => ∃ g cs, sa = .pointer (some ⟨g, 0, none⟩) ∧ sb = .pointer (some ⟨g + 1, 0, none⟩) ∧ VarT wx g cs S0 ∧ wx.heap[g + 1]? = some (.cells #[.int .i64 vc, .int .i64 vi] 27 (0, 0)) ∧ Ext v1 wx)
  case first =>
    have HR := Lib.hid (HST.out v1 HX.out)
    go_wp2_with fail
    refine HR.out.mono ?_
    rw [HS0.out]
    rintro e w1 ⟨cs', rfl, hst, hx1⟩
    have HA := Lib.hid (asgT_mk w1 hst.st (vc) (vi))
    have HS2 := Lib.hid hst.st.size
    have HO := Lib.hid (tsq_one hst.st)
    have HX1 := Lib.hid hx1
    have HZ := Lib.hid (heap_alloc2_old w1 (.cells zeroTs 25) (.cells #[.int .i64 0, .int .i64 0] 27))
    have HF := Lib.hid ((setRow_other _ w1.heap.size (w1.heap.size + 1) cs' (by omega)).trans (heap_alloc2_new w1 (.cells zeroTs 25) (.cells #[.int .i64 0, .int .i64 0] 27)))
    clear hst hx1
    simp only [fAgg]
    go_wp2_with (first | refine wpList_allocQ rfl rfl ?_ | refine wpList_store_row rfl 25 _ _ rfl w1.heap.size cs' rfl rfl 25 zeroTs HZ.out (by rw [HS2.out]; exact sizeQ) (by rw [HS2.out]; rfl) HO.out ?_ | refine wpList_store_row rfl 27 _ _ rfl (w1.heap.size + 1) #[.int .i64 vc, .int .i64 vi] rfl rfl 27 _ HF.out sizeF rfl (by kernel_rfl) ?_)
    go_meet
    exact ⟨_, cs', rfl, rfl, HA.out.v, HA.out.f, HX1.out.trans HA.out.x⟩
  obtain ⟨g7, cs7, rfl, rfl, hv, hf, hx⟩ := hcut
  obtain ⟨v2, rfl⟩ : ∃ v2 : World, v2 = wc := ⟨_, rfl⟩
  have HV5 := Lib.hid (HV5.out.ext hx)
  have HX := Lib.hid (HX.out.trans hx)
  have HV7 := Lib.hid hv
  have HF8 := Lib.hid hf
  have HC7 := Lib.hid hv.st.size
  clear hv hf hx
  go_upto_region 2 with (fail)
  go_cut [9, 10] (fun sa sb wx => ∃ A c g, sa = .slice A jl c ∧ J.length ≤ maxLen ∧ Sl wx .i64 A J ∧ sb = .pointer (some ⟨g, 0, none⟩) ∧ wx.heap[g]? = some (.cells #[.int .i64 uc, .int .i64 ui] 27 (0, 0)) ∧ Ext v2 wx)
  case first =>
    have hr := tape_all cs5 s v2 HV5.out.st
    rw [HTG.out] at hr
    have HR := Lib.hid hr
    clear hr
    go_wp2_with (refine wpList_load_row rfl 25 _ rfl g5 rfl 25 cs5 (0, 0) _ HV5.out.g Tryz.underlying25 rfl (by rw [HC5.out]; exact sizeQ) ?_)
    refine HR.out.mono ?_
    rintro e w1 ⟨v, rfl, ho, hx1⟩
    obtain ⟨A, c, rfl, hlc, hcm, _, hsl⟩ := own_sl ho
    have HX1 := Lib.hid hx1
    have HSL := Lib.hid hsl
    have HLM := Lib.hid (Nat.le_trans hlc hcm)
    have HZF := Lib.hid (heap_alloc_new w1 (.cells #[.int .i64 0, .int .i64 0] 27))
    clear hx1 hsl ho hlc hcm
    simp only [fAgg]
    rw [show (J, (uc, ui)).1.length = jl from HJL.out.symm]
    go_wp2_with (refine wpList_store_row rfl 27 _ _ rfl w1.heap.size #[.int .i64 uc, .int .i64 ui] rfl rfl 27 _ HZF.out sizeF rfl (by kernel_rfl) ?_)
    go_meet
    have hxf := ((Ext.refl w1).alloc (.cells #[.int .i64 0, .int .i64 0] 27)).setRow (Nat.le_refl _) #[.int .i64 uc, .int .i64 ui]
    exact ⟨A, c, _, rfl, HLM.out, Sl.ext HSL.out hxf, rfl, setRow_heap _ _ _ _ _ _ HZF.out, HX1.out.trans hxf⟩
  obtain ⟨A9, c9, g10, rfl, hjm9, hsl9, rfl, hf, hx⟩ := hcut
  obtain ⟨v3, rfl⟩ : ∃ v3 : World, v3 = wc := ⟨_, rfl⟩
  have HV5 := Lib.hid (HV5.out.ext hx)
  have HV7 := Lib.hid (HV7.out.ext hx)
  have HF8 := Lib.hid (ext_heap hx HF8.out)
  have HX := Lib.hid (HX.out.trans hx)
  have HF10 := Lib.hid hf
  have HSL9 := Lib.hid hsl9
  have HJM9 := Lib.hid hjm9
  clear hf hx hsl9 hjm9
  go_upto_region 3 with (fail)
  go_cut [11, 12] (fun sa sb wx => ∃ g cs, sa = .pointer (some ⟨g, 0, none⟩) ∧ sb = .pointer (some ⟨g + 1, 0, none⟩) ∧ VarT wx g cs M ∧ wx.heap[g + 1]? = some (.cells #[.int .i64 uc, .int .i64 ui] 27 (0, 0)) ∧ Ext v3 wx)
  case first =>
    have HR := Lib.hid (mirror_all cs5 s v3 HV5.out.st)
    go_wp2_with (refine wpList_load_row rfl 25 _ rfl g5 rfl 25 cs5 (0, 0) _ HV5.out.g Tryz.underlying25 rfl (by rw [HC5.out]; exact sizeQ) ?_)
    refine HR.out.mono ?_
    rw [HMG.out]
    rintro e w1 ⟨cs', rfl, hst, hx1⟩
    have HA := Lib.hid (asgT_mk w1 hst.st (uc) (ui))
    have HS2 := Lib.hid hst.st.size
    have HO := Lib.hid (tsq_one hst.st)
    have HX1 := Lib.hid hx1
    have HZ := Lib.hid (heap_alloc2_old w1 (.cells zeroTs 25) (.cells #[.int .i64 0, .int .i64 0] 27))
    have HF := Lib.hid ((setRow_other _ w1.heap.size (w1.heap.size + 1) cs' (by omega)).trans (heap_alloc2_new w1 (.cells zeroTs 25) (.cells #[.int .i64 0, .int .i64 0] 27)))
    clear hst hx1
    simp only [fAgg]
    go_wp2_with (first | refine wpList_allocQ rfl rfl ?_ | refine wpList_store_row rfl 25 _ _ rfl w1.heap.size cs' rfl rfl 25 zeroTs HZ.out (by rw [HS2.out]; exact sizeQ) (by rw [HS2.out]; rfl) HO.out ?_ | refine wpList_store_row rfl 27 _ _ rfl (w1.heap.size + 1) #[.int .i64 uc, .int .i64 ui] rfl rfl 27 _ HF.out sizeF rfl (by kernel_rfl) ?_)
    go_meet
    exact ⟨_, cs', rfl, rfl, HA.out.v, HA.out.f, HX1.out.trans HA.out.x⟩
  obtain ⟨g11, cs11, rfl, rfl, hv, hf, hx⟩ := hcut
  obtain ⟨v4, rfl⟩ : ∃ v4 : World, v4 = wc := ⟨_, rfl⟩
  have HV5 := Lib.hid (HV5.out.ext hx)
  have HV7 := Lib.hid (HV7.out.ext hx)
  have HF8 := Lib.hid (ext_heap hx HF8.out)
  have HF10 := Lib.hid (ext_heap hx HF10.out)
  have HSL9 := Lib.hid (Sl.ext HSL9.out hx)
  have HX := Lib.hid (HX.out.trans hx)
  have HV11 := Lib.hid hv
  have HF12 := Lib.hid hf
  have HC11 := Lib.hid hv.st.size
  clear hv hf hx
  go_upto_region 4 with (fail)
  go_cut [13] (fun sa wx => ∃ g, sa = .pointer (some ⟨g, 0, none⟩) ∧ wx.heap[g]? = some (.cells #[.int .i64 vc, .int .i64 vi] 27 (0, 0)) ∧ Ext v4 wx)
  case first =>
    have hr := HSF.out v4 HX.out
    rw [HS0.out] at hr
    have HR := Lib.hid hr
    clear hr
    go_wp2_with fail
    refine HR.out.mono ?_
    rintro e w1 ⟨rfl, hx1⟩
    have HX1 := Lib.hid hx1
    have HZF := Lib.hid (heap_alloc_new w1 (.cells #[.int .i64 0, .int .i64 0] 27))
    clear hx1
    simp only [fAgg]
    go_wp2_with (refine wpList_store_row rfl 27 _ _ rfl w1.heap.size #[.int .i64 vc, .int .i64 vi] rfl rfl 27 _ HZF.out sizeF rfl (by kernel_rfl) ?_)
    go_meet
    exact ⟨_, rfl, setRow_heap _ _ _ _ _ _ HZF.out, HX1.out.trans (((Ext.refl w1).alloc _).setRow (Nat.le_refl _) _)⟩
  obtain ⟨g13, rfl, hf, hx⟩ := hcut
  obtain ⟨v5, rfl⟩ : ∃ v5 : World, v5 = wc := ⟨_, rfl⟩
  have HV5 := Lib.hid (HV5.out.ext hx)
  have HV7 := Lib.hid (HV7.out.ext hx)
  have HV11 := Lib.hid (HV11.out.ext hx)
  have HF8 := Lib.hid (ext_heap hx HF8.out)
  have HF10 := Lib.hid (ext_heap hx HF10.out)
  have HF12 := Lib.hid (ext_heap hx HF12.out)
  have HSL9 := Lib.hid (Sl.ext HSL9.out hx)
  have HX := Lib.hid (HX.out.trans hx)
  have HF13 := Lib.hid hf
  clear hf hx
  go_upto_region 5 with (fail)
  go_cut [14] (fun sa wx => ∃ g, sa = .pointer (some ⟨g, 0, none⟩) ∧ wx.heap[g]? = some (.cells #[.int .i64 uc, .int .i64 ui] 27 (0, 0)) ∧ Ext v5 wx)
  case first =>
    have hr := TapeFault_c cs5 s v5 HV5.out.st
    rw [HUF.out] at hr
    have HR := Lib.hid hr
    clear hr
    go_wp2_with (refine wpList_load_row rfl 25 _ rfl g5 rfl 25 cs5 (0, 0) _ HV5.out.g Tryz.underlying25 rfl (by rw [HC5.out]; exact sizeQ) ?_)
    refine HR.out.mono ?_
    rintro e w1 ⟨rfl, hx1⟩
    have HX1 := Lib.hid hx1
    have HZF := Lib.hid (heap_alloc_new w1 (.cells #[.int .i64 0, .int .i64 0] 27))
    clear hx1
    simp only [fAgg]
    go_wp2_with (refine wpList_store_row rfl 27 _ _ rfl w1.heap.size #[.int .i64 uc, .int .i64 ui] rfl rfl 27 _ HZF.out sizeF rfl (by kernel_rfl) ?_)
    go_meet
    exact ⟨_, rfl, setRow_heap _ _ _ _ _ _ HZF.out, HX1.out.trans (((Ext.refl w1).alloc _).setRow (Nat.le_refl _) _)⟩
  obtain ⟨g14, rfl, hf, hx⟩ := hcut
  obtain ⟨v6, rfl⟩ : ∃ v6 : World, v6 = wc := ⟨_, rfl⟩
  have HV5 := Lib.hid (HV5.out.ext hx)
  have HV7 := Lib.hid (HV7.out.ext hx)
  have HV11 := Lib.hid (HV11.out.ext hx)
  have HF8 := Lib.hid (ext_heap hx HF8.out)
  have HF10 := Lib.hid (ext_heap hx HF10.out)
  have HF12 := Lib.hid (ext_heap hx HF12.out)
  have HF13 := Lib.hid (ext_heap hx HF13.out)
  have HSL9 := Lib.hid (Sl.ext HSL9.out hx)
  have HX := Lib.hid (HX.out.trans hx)
  have HF14 := Lib.hid hf
  clear hf hx
  have p0 : v6.cell? ⟨g7 + 1, 0, none⟩ = some (.int .i64 vc) := blk_cell HF8.out 0
  have p1 : v6.cell? ⟨g7 + 1, 1, none⟩ = some (.int .i64 vi) := blk_cell HF8.out 1
  have q0 : v6.cell? ⟨g13, 0, none⟩ = some (.int .i64 vc) := blk_cell HF13.out 0
  have q1 : v6.cell? ⟨g13, 1, none⟩ = some (.int .i64 vi) := blk_cell HF13.out 1
  have r0 : v6.cell? ⟨g10, 0, none⟩ = some (.int .i64 uc) := blk_cell HF10.out 0
  have r1 : v6.cell? ⟨g10, 1, none⟩ = some (.int .i64 ui) := blk_cell HF10.out 1
  have s0 : v6.cell? ⟨g14, 0, none⟩ = some (.int .i64 uc) := blk_cell HF14.out 0
  have s1 : v6.cell? ⟨g14, 1, none⟩ = some (.int .i64 ui) := blk_cell HF14.out 1
  have u0 : v6.cell? ⟨g11 + 1, 0, none⟩ = some (.int .i64 uc) := blk_cell HF12.out 0
  have u1 : v6.cell? ⟨g11 + 1, 1, none⟩ = some (.int .i64 ui) := blk_cell HF12.out 1
  go_upto_region 6 with (fail)
  go_cut [59] (fun sa wx => sa = .bool false ∧ Ext v6 wx)
  case first =>
    refine wp_region_held_drew (S := (fun w' => w'.cell? ⟨g7 + 1, 0, none⟩ = some (.int .i64 vc) ∧ w'.cell? ⟨g7 + 1, 1, none⟩ = some (.int .i64 vi) ∧ w'.cell? ⟨g13, 0, none⟩ = some (.int .i64 vc) ∧ w'.cell? ⟨g13, 1, none⟩ = some (.int .i64 vi) ∧ w'.cell? ⟨g10, 0, none⟩ = some (.int .i64 uc) ∧ w'.cell? ⟨g10, 1, none⟩ = some (.int .i64 ui) ∧ w'.cell? ⟨g14, 0, none⟩ = some (.int .i64 uc) ∧ w'.cell? ⟨g14, 1, none⟩ = some (.int .i64 ui) ∧ w'.cell? ⟨g11 + 1, 0, none⟩ = some (.int .i64 uc) ∧ w'.cell? ⟨g11 + 1, 1, none⟩ = some (.int .i64 ui))) (by kernel_rfl) ?_ (fun hHeld => ?_)
    · exact ⟨p0, p1, q0, q1, r0, r1, s0, s1, u0, u1⟩
    refine wpAnyH_ready (rs := [0]) (by kernel_rfl) (by simp) ?_
    refine (AllReadyH.cons (o := { dst := some 37, op := _, type := _, pos := _, after := _, guard := _ }) rfl (fun K hK => ?_) AllReadyH.nil)
    · refine step_callg (by simp [Region.wanted]) 10 [] #[] rfl [] rfl (fun W => by kernel_rfl) (taped_c _ (HT.out.ext (HX.out.trans (Ext.refl v6).drew))) ?_
      rintro e w1 ⟨rfl, hx1⟩
      refine ⟨_, rfl, ?_⟩
      have HX1 := Lib.hid (((Ext.refl v6).drew).trans hx1)
      have HG5X := Lib.hid (ext_heap HX1.out HV5.out.g)
      have HVC := Lib.hid (Valid_t cs5 s w1 (HV5.out.st.ext HX1.out))
      refine hK.out _ _ ?_ (fun hHeld => ?_)
      · exact ⟨hx1.cell p0, hx1.cell p1, hx1.cell q0, hx1.cell q1, hx1.cell r0, hx1.cell r1, hx1.cell s0, hx1.cell s1, hx1.cell u0, hx1.cell u1⟩
      clear hK K
      try simp only [Act.put, List.setIfInBounds_toArray, List.set_cons_zero, List.set_cons_succ]
      refine wpAnyH_take (i := 1) (oi := { dst := some 38, op := _, type := _, pos := _, after := _, guard := _ }) (v := ?v601) rfl (by kernel_rfl) (by kernel_rfl) (by kernel_rfl) (fun _ _ _ h => h) (Or.inl ⟨by rfl, ?hy601⟩) (by assumption) ?rest601
      case hy601 => (intro w hSw; (try dsimp only at hSw); go_simp; (try with_reducible rfl))
      try simp only [Act.put, List.setIfInBounds_toArray, List.set_cons_zero, List.set_cons_succ]
      refine wpAnyH_take (i := 2) (oi := { dst := some 39, op := _, type := _, pos := _, after := _, guard := _ }) (v := ?v602) rfl (by kernel_rfl) (by kernel_rfl) (by kernel_rfl) (fun _ _ _ h => h) (Or.inl ⟨by rfl, ?hy602⟩) (by assumption) ?rest602
      case hy602 => (intro w hSw; (try dsimp only at hSw); go_simp; (try with_reducible rfl))
      try simp only [Act.put, List.setIfInBounds_toArray, List.set_cons_zero, List.set_cons_succ]
      refine wpAnyH_take (i := 3) (oi := { dst := some 40, op := _, type := _, pos := _, after := _, guard := _ }) (v := ?v603) rfl (by kernel_rfl) (by kernel_rfl) (by kernel_rfl) (fun _ _ _ h => h) (Or.inl ⟨by rfl, ?hy603⟩) (by assumption) ?rest603
      case hy603 => (intro w hSw; (try dsimp only at hSw); go_simp; (try with_reducible rfl))
      try simp only [Act.put, List.setIfInBounds_toArray, List.set_cons_zero, List.set_cons_succ]
      refine wpAnyH_take (i := 4) (oi := { dst := some 41, op := _, type := _, pos := _, after := _, guard := _ }) (v := ?v604) rfl (by kernel_rfl) (by kernel_rfl) (by kernel_rfl) (fun _ _ _ h => h) (Or.inl ⟨by rfl, ?hy604⟩) (by assumption) ?rest604
      case hy604 => (intro w hSw; (try dsimp only at hSw); go_simp; (try with_reducible rfl))
      try simp only [Act.put, List.setIfInBounds_toArray, List.set_cons_zero, List.set_cons_succ]
      refine wpAnyH_take (i := 5) (oi := { dst := some 42, op := _, type := _, pos := _, after := _, guard := _ }) (v := ?v605) rfl (by kernel_rfl) (by kernel_rfl) (by kernel_rfl) (fun _ _ _ h => h) (Or.inl ⟨by rfl, ?hy605⟩) (by assumption) ?rest605
      case hy605 => (intro w hSw; (try dsimp only at hSw); go_simp; (try with_reducible rfl))
      try simp only [Act.put, List.setIfInBounds_toArray, List.set_cons_zero, List.set_cons_succ]
      refine wpAnyH_take (i := 6) (oi := { dst := some 43, op := _, type := _, pos := _, after := _, guard := _ }) (v := ?v606) rfl (by kernel_rfl) (by kernel_rfl) (by kernel_rfl) (fun _ _ _ h => h) (Or.inl ⟨by rfl, ?hy606⟩) (by assumption) ?rest606
      case hy606 => (intro w hSw; (try dsimp only at hSw); go_simp; (try with_reducible rfl))
      try simp only [Act.put, List.setIfInBounds_toArray, List.set_cons_zero, List.set_cons_succ]
      refine wpAnyH_take (i := 7) (oi := { dst := some 44, op := _, type := _, pos := _, after := _, guard := _ }) (v := ?v607) rfl (by kernel_rfl) (by kernel_rfl) (by kernel_rfl) (fun _ _ _ h => h) (Or.inl ⟨by rfl, ?hy607⟩) (by assumption) ?rest607
      case hy607 => (intro w hSw; (try dsimp only at hSw); go_simp; (try with_reducible rfl))
      try simp only [Act.put, List.setIfInBounds_toArray, List.set_cons_zero, List.set_cons_succ]
      refine wpAnyH_take (i := 8) (oi := { dst := some 45, op := _, type := _, pos := _, after := _, guard := _ }) (v := ?v608) rfl (by kernel_rfl) (by kernel_rfl) (by kernel_rfl) (fun _ _ _ h => h) (Or.inl ⟨by rfl, ?hy608⟩) (by assumption) ?rest608
      case hy608 => (intro w hSw; (try dsimp only at hSw); go_simp; (try with_reducible rfl))
      try simp only [Act.put, List.setIfInBounds_toArray, List.set_cons_zero, List.set_cons_succ]
      refine wpAnyH_take (i := 9) (oi := { dst := some 46, op := _, type := _, pos := _, after := _, guard := _ }) (v := ?v609) rfl (by kernel_rfl) (by kernel_rfl) (by kernel_rfl) (fun _ _ _ h => h) (Or.inl ⟨by rfl, ?hy609⟩) (by assumption) ?rest609
      case hy609 => (intro w hSw; (try dsimp only at hSw); go_simp; (try with_reducible rfl))
      try simp only [Act.put, List.setIfInBounds_toArray, List.set_cons_zero, List.set_cons_succ]
      refine wpAnyH_take (i := 10) (oi := { dst := some 47, op := _, type := _, pos := _, after := _, guard := _ }) (v := ?v610) rfl (by kernel_rfl) (by kernel_rfl) (by kernel_rfl) (fun _ _ _ h => h) (Or.inl ⟨by rfl, ?hy610⟩) (by assumption) ?rest610
      case hy610 => (intro w hSw; (try dsimp only at hSw); go_simp; (try with_reducible rfl))
      try simp only [Act.put, List.setIfInBounds_toArray, List.set_cons_zero, List.set_cons_succ]
      refine wpAnyH_take (i := 11) (oi := { dst := some 48, op := _, type := _, pos := _, after := _, guard := _ }) (v := ?v611) rfl (by kernel_rfl) (by kernel_rfl) (by kernel_rfl) (fun _ _ _ h => h) (Or.inl ⟨by rfl, ?hy611⟩) (by assumption) ?rest611
      case hy611 => (intro w hSw; (try dsimp only at hSw); go_simp; (try with_reducible rfl))
      try simp only [Act.put, List.setIfInBounds_toArray, List.set_cons_zero, List.set_cons_succ]
      refine wpAnyH_take (i := 12) (oi := { dst := some 49, op := _, type := _, pos := _, after := _, guard := _ }) (v := ?v612) rfl (by kernel_rfl) (by kernel_rfl) (by kernel_rfl) (fun _ _ _ h => h) (Or.inl ⟨by rfl, ?hy612⟩) (by assumption) ?rest612
      case hy612 => (intro w hSw; (try dsimp only at hSw); go_simp; (try with_reducible rfl))
      try simp only [Act.put, List.setIfInBounds_toArray, List.set_cons_zero, List.set_cons_succ]
      refine wpAnyH_take (i := 13) (oi := { dst := some 50, op := _, type := _, pos := _, after := _, guard := _ }) (v := ?v613) rfl (by kernel_rfl) (by kernel_rfl) (by kernel_rfl) (fun _ _ _ h => h) (Or.inl ⟨by rfl, ?hy613⟩) (by assumption) ?rest613
      case hy613 => (intro w hSw; (try dsimp only at hSw); go_simp; (try with_reducible rfl))
      try simp only [Act.put, List.setIfInBounds_toArray, List.set_cons_zero, List.set_cons_succ]
      refine wpAnyH_take (i := 14) (oi := { dst := some 51, op := _, type := _, pos := _, after := _, guard := _ }) (v := ?v614) rfl (by kernel_rfl) (by kernel_rfl) (by kernel_rfl) (fun _ _ _ h => h) (Or.inl ⟨by rfl, ?hy614⟩) (by assumption) ?rest614
      case hy614 => (intro w hSw; (try dsimp only at hSw); go_simp; (try with_reducible rfl))
      try simp only [Act.put, List.setIfInBounds_toArray, List.set_cons_zero, List.set_cons_succ]
      refine wpAnyH_take (i := 15) (oi := { dst := some 52, op := _, type := _, pos := _, after := _, guard := _ }) (v := ?v615) rfl (by kernel_rfl) (by kernel_rfl) (by kernel_rfl) (fun _ _ _ h => h) (Or.inl ⟨by rfl, ?hy615⟩) (by assumption) ?rest615
      case hy615 => (intro w hSw; (try dsimp only at hSw); go_simp; (try with_reducible rfl))
      try simp only [Act.put, List.setIfInBounds_toArray, List.set_cons_zero, List.set_cons_succ]
      refine wpAnyH_take (i := 16) (oi := { dst := some 53, op := _, type := _, pos := _, after := _, guard := _ }) (v := ?v616) rfl (by kernel_rfl) (by kernel_rfl) (by kernel_rfl) (fun _ _ _ h => h) (Or.inl ⟨by rfl, ?hy616⟩) (by assumption) ?rest616
      case hy616 => (intro w hSw; (try dsimp only at hSw); go_simp; (try with_reducible rfl))
      try simp only [Act.put, List.setIfInBounds_toArray, List.set_cons_zero, List.set_cons_succ]
      refine wpAnyH_take (i := 17) (oi := { dst := some 54, op := _, type := _, pos := _, after := _, guard := _ }) (v := ?v617) rfl (by kernel_rfl) (by kernel_rfl) (by kernel_rfl) (fun _ _ _ h => h) (Or.inl ⟨by rfl, ?hy617⟩) (by assumption) ?rest617
      case hy617 => (intro w hSw; (try dsimp only at hSw); go_simp; (try with_reducible rfl))
      try simp only [Act.put, List.setIfInBounds_toArray, List.set_cons_zero, List.set_cons_succ]
      refine wpAnyH_take (i := 20) (oi := { dst := some 57, op := _, type := _, pos := _, after := _, guard := _ }) (v := ?v618) rfl (by kernel_rfl) (by kernel_rfl) (by kernel_rfl) (fun _ _ _ h => h) (Or.inl ⟨by rfl, ?hy618⟩) (by assumption) ?rest618
      case hy618 => (intro w hSw; (try dsimp only at hSw); go_simp; (try with_reducible rfl))
      try simp only [Act.put, List.setIfInBounds_toArray, List.set_cons_zero, List.set_cons_succ]
      refine wpAnyH_ready (rs := [18]) (by kernel_rfl) (by simp) ?_
      refine (AllReadyH.cons (o := { dst := some 55, op := _, type := _, pos := _, after := _, guard := _ }) rfl (fun K hK => ?_) AllReadyH.nil)
      · refine step_load_rowg (by first | (simp [Region.wanted, yielded]; done) | simp [Region.wanted, yielded, Act.put]) 25 _ rfl g5 (by first | (simp [Act.eval]; done) | simp [Act.eval, Act.put]) 25 cs5 (0, 0) _ HG5X.out Tryz.underlying25 rfl (by rw [HC5.out]; exact sizeQ) ?_
        refine hK.out _ _ ?_ (fun hHeld => ?_)
        · exact hHeld
        clear hK K
        try simp only [Act.put, List.setIfInBounds_toArray, List.set_cons_zero, List.set_cons_succ]
        refine wpAnyH_ready (rs := [19]) (by kernel_rfl) (by simp) ?_
        refine (AllReadyH.cons (o := { dst := some 56, op := _, type := _, pos := _, after := _, guard := _ }) rfl (fun K hK => ?_) AllReadyH.nil)
        · refine step_callg (by first | (simp [Region.wanted, yielded]; done) | simp [Region.wanted, yielded, Act.put]) 11 [.tmp 55] #[25] rfl [.agg cs5] (by first | (simp [Act.eval]; done) | simp [Act.eval, Act.put]) (fun W => by kernel_rfl) HVC.out ?_
          rw [HUF.out]
          rintro e w2 ⟨rfl, hx2⟩
          refine ⟨_, rfl, ?_⟩
          simp only [fAgg]
          have HX2 := Lib.hid (HX1.out.trans hx2)
          refine hK.out _ _ ?_ (fun hHeld => ?_)
          · exact ⟨hx2.cell hHeld.1, hx2.cell hHeld.2.1, hx2.cell hHeld.2.2.1, hx2.cell hHeld.2.2.2.1, hx2.cell hHeld.2.2.2.2.1, hx2.cell hHeld.2.2.2.2.2.1, hx2.cell hHeld.2.2.2.2.2.2.1, hx2.cell hHeld.2.2.2.2.2.2.2.1, hx2.cell hHeld.2.2.2.2.2.2.2.2.1, hx2.cell hHeld.2.2.2.2.2.2.2.2.2⟩
          clear hK K
          try simp only [Act.put, List.setIfInBounds_toArray, List.set_cons_zero, List.set_cons_succ]
          refine wpAnyH_take (i := 21) (oi := { dst := some 58, op := _, type := _, pos := _, after := _, guard := _ }) (v := ?v619) rfl (by kernel_rfl) (by kernel_rfl) (by kernel_rfl) (fun _ _ _ h => h) (Or.inl ⟨by rfl, ?hy619⟩) (by assumption) ?rest619
          case hy619 => (intro w hSw; (try dsimp only at hSw); go_simp; (try with_reducible rfl))
          try simp only [Act.put, List.setIfInBounds_toArray, List.set_cons_zero, List.set_cons_succ]
          refine wpAnyH_take (i := 22) (oi := { dst := some 59, op := _, type := _, pos := _, after := _, guard := _ }) (v := ?v620) rfl (by kernel_rfl) (by kernel_rfl) (by kernel_rfl) (fun _ _ _ h => h) (Or.inl ⟨by rfl, ?hy620⟩) (by assumption) ?rest620
          case hy620 => (intro w hSw; (try dsimp only at hSw); go_simp; (try with_reducible rfl))
          try simp only [Act.put, List.setIfInBounds_toArray, List.set_cons_zero, List.set_cons_succ]
          refine wpAnyH_done (by kernel_rfl) ?_ _
          go_wp2_with fail
          go_meet
          exact ⟨rfl, HX2.out⟩
  obtain ⟨rfl, hx⟩ := hcut
  obtain ⟨v7, rfl⟩ : ∃ v7 : World, v7 = wc := ⟨_, rfl⟩
  have HV5 := Lib.hid (HV5.out.ext hx)
  have HV7 := Lib.hid (HV7.out.ext hx)
  have HV11 := Lib.hid (HV11.out.ext hx)
  have HF8 := Lib.hid (ext_heap hx HF8.out)
  have HF10 := Lib.hid (ext_heap hx HF10.out)
  have HF12 := Lib.hid (ext_heap hx HF12.out)
  have HF13 := Lib.hid (ext_heap hx HF13.out)
  have HF14 := Lib.hid (ext_heap hx HF14.out)
  have HSL9 := Lib.hid (Sl.ext HSL9.out hx)
  have HX := Lib.hid (HX.out.trans hx)
  clear hx p0 p1 q0 q1 r0 r1 s0 s1 u0 u1
  go_upto_region 8 with (fail)
  go_cut [15] (fun sa wx => sa = .pointer (some ⟨v7.heap.size, 0, none⟩) ∧ wx.heap[v7.heap.size]? = some (.cells zeroTs 25 (0, 0)) ∧ Ext v7 wx)
  case first =>
    have HZ := Lib.hid (heap_alloc_new v7 (.cells zeroTs 25))
    go_wp2_with (first | refine wpList_buildQ rfl rfl ?_ | refine wpList_allocQ rfl rfl ?_ | refine wpList_store_row rfl 25 _ _ rfl v7.heap.size zeroTs rfl rfl 25 zeroTs HZ.out sizeQ rfl zeroT_one ?_)
    go_meet
    exact ⟨rfl, setRow_heap _ _ _ _ _ _ HZ.out, ((Ext.refl v7).alloc _).setRow (Nat.le_refl _) _⟩
  obtain ⟨rfl, hb15, hx⟩ := hcut
  obtain ⟨g15, hg15⟩ : ∃ g15, v7.heap.size = g15 := ⟨_, rfl⟩
  rw [hg15] at hb15 ⊢
  have HG15 : Hid (w.heap.size ≤ g15) := Lib.hid (by rw [← hg15]; exact HX.out.size)
  have HGS : Hid (v7.heap.size = g15) := Lib.hid hg15
  obtain ⟨v8, rfl⟩ : ∃ v8 : World, v8 = wc := ⟨_, rfl⟩
  have HXY := Lib.hid hx
  have HB15 := Lib.hid hb15
  have HXZ := Lib.hid (HX.out.trans hx)
  clear hx hb15 hg15
  have p0 : v8.cell? ⟨g13, 0, none⟩ = some (.int .i64 vc) := blk_cell (ext_heap HXY.out HF13.out) 0
  have hlt15 := (Array.getElem?_eq_some_iff.1 HB15.out).1
  go_upto_if 63 with (fail)
  go_cut [] (fun wx => ∃ cs15, VarT wx g15 cs15 S0 ∧ Ext v7 wx)
  case first =>
    by_cases hz : vc = 0
    · have e1 : (vc == 0) = true := by simpa using hz
      have HSQ : Hid (S0 = { ts0 with rules := L, cells := tapeOf l }) := Lib.hid (by
        have h1 := HS0.out
        unfold startGT at h1
        split at h1
        · rename_i hg
          split at h1
          · cases h1; simp at hz
          · split at h1
            · cases h1; simp at hz
            · cases h1; rfl
        · rename_i hg
          exact absurd (by have := congrArg (fun x => x.2.1) h1; exact this.trans hz) (faultR_code hg))
      have HR := Lib.hid (HSD.out v8 HXZ.out)
      clear hz
      go_wp2_with fail
      refine HR.out.mono ?_
      rintro e w1 ⟨cz, rfl, hst, hx1⟩
      have HB1 := Lib.hid (ext_heap hx1 HB15.out)
      have hs1 := hst w1 (fun _ _ _ => rfl)
      have HSZ := Lib.hid hs1.size
      have HO := Lib.hid (tsq_one hs1)
      have HX1 := Lib.hid hx1
      have HAV : Hid (TsIs (w1.setRow g15 cz) cz { ts0 with rules := L, cells := tapeOf l }) := Lib.hid (hst _ (fun b hb _ => setRow_other _ _ _ _ (by have := HG15.out; have := hlt15; omega)))
      clear hs1
      clear hst hx1
      go_wp2_with (refine wpList_store_row rfl 25 _ _ rfl g15 cz rfl rfl 25 zeroTs HB1.out (by rw [HSZ.out]; exact sizeQ) (by rw [HSZ.out]; rfl) HO.out ?_)
      go_meet
      refine ⟨cz, ⟨setRow_heap _ _ _ _ _ _ HB1.out, by rw [HSQ.out]; exact HAV.out⟩, (HXY.out.trans HX1.out).setRow (Nat.le_of_eq HGS.out) _⟩
    · have e1 : (vc == 0) = false := by simpa using hz
      have HSQ : Hid (S0 = ts0) := Lib.hid (by
        have h1 := HS0.out
        unfold startGT at h1
        split at h1
        · split at h1
          · cases h1; rfl
          · split at h1
            · cases h1; rfl
            · cases h1; exact absurd rfl hz
        · exact (congrArg Prod.fst h1).symm)
      clear hz
      go_wp2_with fail
      go_meet
      exact ⟨zeroTs, ⟨HB15.out, by rw [HSQ.out]; exact zeroT_is _⟩, HXY.out⟩
  obtain ⟨cs15, hv, hx⟩ := hcut
  obtain ⟨v9, rfl⟩ : ∃ v9 : World, v9 = wc := ⟨_, rfl⟩
  have HV5 := Lib.hid (HV5.out.ext hx)
  have HV7 := Lib.hid (HV7.out.ext hx)
  have HV11 := Lib.hid (HV11.out.ext hx)
  have HF8 := Lib.hid (ext_heap hx HF8.out)
  have HF10 := Lib.hid (ext_heap hx HF10.out)
  have HF12 := Lib.hid (ext_heap hx HF12.out)
  have HF13 := Lib.hid (ext_heap hx HF13.out)
  have HF14 := Lib.hid (ext_heap hx HF14.out)
  have HSL9 := Lib.hid (Sl.ext HSL9.out hx)
  have HX := Lib.hid (HX.out.trans hx)
  have HV15 := Lib.hid hv
  have HC15 := Lib.hid hv.st.size
  clear hv hx p0 hlt15 HXY HXZ HB15
  have HSM := Lib.hid (SameTape_c cs7 cs15 _ _ v9 HV7.out.st HV15.out.st)
  go_upto_region 13 with (first | refine wpList_load_row rfl 25 _ rfl g7 rfl 25 cs7 (0, 0) _ HV7.out.g Tryz.underlying25 rfl (by rw [HC7.out]; exact sizeQ) ?_ | refine wpList_load_row rfl 25 _ rfl g15 rfl 25 cs15 (0, 0) _ HV15.out.g Tryz.underlying25 rfl (by rw [HC15.out]; exact sizeQ) ?_ | (go_at_call 13; refine HSM.out.mono ?_; rw [sameTB_refl]; rintro e w0 ⟨rfl, hx0⟩; have HX0 := Lib.hid hx0; clear hx0))
  have hx := HX0.out
  have HV5 := Lib.hid (HV5.out.ext hx)
  have HV7 := Lib.hid (HV7.out.ext hx)
  have HV11 := Lib.hid (HV11.out.ext hx)
  have HV15 := Lib.hid (HV15.out.ext hx)
  have HF8 := Lib.hid (ext_heap hx HF8.out)
  have HF10 := Lib.hid (ext_heap hx HF10.out)
  have HF12 := Lib.hid (ext_heap hx HF12.out)
  have HF13 := Lib.hid (ext_heap hx HF13.out)
  have HF14 := Lib.hid (ext_heap hx HF14.out)
  have HSL9 := Lib.hid (Sl.ext HSL9.out hx)
  have HX := Lib.hid (HX.out.trans hx)
  clear hx
  have s0 : w0.cell? ⟨g14, 0, none⟩ = some (.int .i64 uc) := blk_cell HF14.out 0
  by_cases hz : uc = 0
  rotate_left
  · have hf1 : faultT s ≠ (0, 0) := fun q => hz (by have := HUF.out; rw [q] at this; cases this; rfl)
    have hJ : J = [] := by have := HTG.out; unfold tapeG at this; rw [if_neg hf1] at this; exact (congrArg Prod.fst this).symm
    have hM : M = ts0 := by have := HMG.out; unfold mirrorG at this; rw [if_neg hf1] at this; exact (congrArg Prod.fst this).symm
    have hjl0 : jl = 0 := by rw [HJL.out, hJ]; rfl
    have m2 : (uc != 0) = true := by simpa using hz
    subst hjl0
    subst hM
    have HSM2 := Lib.hid (SameTape_c cs11 zeroTs ts0 ts0 w0 HV11.out.st (zeroT_is _))
    clear hf1 hJ hz
    go_wp2_with (first | refine wpList_load_rowg (by rfl) 25 _ rfl g11 (by rfl) 25 cs11 (0, 0) _ HV11.out.g Tryz.underlying25 rfl (by rw [HC11.out]; exact sizeQ) ?_ | refine wpList_buildQg (by rfl) rfl ?_)
    refine HSM2.out.mono ?_
    rw [sameTB_refl]
    rintro e w9 ⟨rfl, hx9⟩
    have HX9 := Lib.hid (HX.out.trans hx9)
    clear hx9
    go_wp2_with fail
    go_ret
    exact ⟨rfl, HX9.out⟩
  have hf0 : faultT s = (0, 0) := by
    by_cases q : faultT s = (0, 0)
    · exact q
    · exact absurd (by rw [HUF.out]; exact hz) (faultT_code q)
  have hJ : J = Tape.inked s.cells := by have := HTG.out; unfold tapeG at this; rw [if_pos hf0] at this; exact (congrArg Prod.fst this).symm
  have hM : M = Tape.mirror s := by have := HMG.out; unfold mirrorG at this; rw [if_pos hf0] at this; exact (congrArg Prod.fst this).symm
  subst hz
  subst hM
  have HOK := Lib.hid (okt_of hf0)
  obtain ⟨A1, d1, e1, hl1, hm1, hA1, hs1⟩ := HV5.out.st.cells
  have HINK : Hid (∀ W : World, Ext w0 W → Calls Tryz.prog 15 #[.slice A1 s.cells.length d1] W fun e w' => ∃ A' c2, e = .returned (.slice A' jl c2) ∧ Sl w' .i64 A' J ∧ W = w') := Lib.hid (fun W x => (inked_c A1 s.cells d1 W hl1 hm1 hA1 (Sl.ext hs1 x)).mono fun e w' hq => by
    obtain ⟨A', c2, he, hsl, _, hw⟩ := hq
    exact ⟨A', c2, by rw [he, HJL.out, hJ], by rw [hJ]; exact hsl, hw⟩)
  have k1 : w0.cell? ⟨g5, 1, none⟩ = some (.slice A1 s.cells.length d1) := (blk_cell HV5.out.g 1).trans e1
  obtain ⟨cl, hcl⟩ : ∃ cl, cl = s.cells.length := ⟨_, rfl⟩
  rw [← hcl] at HINK k1
  clear hf0 hJ e1 hl1 hm1 hA1 hs1 hcl
  go_upto_region 15 with (fail)
  refine wp_region_held_drew (S := (fun w' => w'.cell? ⟨g5, 1, none⟩ = some (.slice A1 cl d1))) (by kernel_rfl) ?_ (fun hHeld => ?_)
  · exact k1
  refine wpAnyH_take (i := 0) (oi := { dst := some 82, op := _, type := _, pos := _, after := _, guard := _ }) (v := ?v1501) rfl (by kernel_rfl) (by kernel_rfl) (by kernel_rfl) (fun _ _ _ h => h) (Or.inl ⟨by rfl, ?hy1501⟩) (by assumption) ?rest1501
  case hy1501 => (intro w hSw; (try dsimp only at hSw); go_simp; (try with_reducible rfl))
  try simp only [Act.put, List.setIfInBounds_toArray, List.set_cons_zero, List.set_cons_succ]
  refine wpAnyH_take (i := 1) (oi := { dst := some 83, op := _, type := _, pos := _, after := _, guard := _ }) (v := ?v1502) rfl (by kernel_rfl) (by kernel_rfl) (by kernel_rfl) (fun _ _ _ h => h) (Or.inl ⟨by rfl, ?hy1502⟩) (by assumption) ?rest1502
  case hy1502 => (intro w hSw; (try dsimp only at hSw); go_simp; (try with_reducible rfl))
  try simp only [Act.put, List.setIfInBounds_toArray, List.set_cons_zero, List.set_cons_succ]
  refine wpAnyH_take (i := 2) (oi := { dst := some 84, op := _, type := _, pos := _, after := _, guard := _ }) (v := ?v1503) rfl (by kernel_rfl) (by kernel_rfl) (by kernel_rfl) (fun _ _ _ h => h) (Or.inl ⟨by rfl, ?hy1503⟩) (by assumption) ?rest1503
  case hy1503 => (intro w hSw; (try dsimp only at hSw); go_simp; (try with_reducible rfl))
  try simp only [Act.put, List.setIfInBounds_toArray, List.set_cons_zero, List.set_cons_succ]
  refine wpAnyH_ready (rs := [3]) (by kernel_rfl) (by simp) ?_
  refine (AllReadyH.cons (o := { dst := some 85, op := _, type := _, pos := _, after := _, guard := _ }) rfl (fun K hK => ?_) AllReadyH.nil)
  · refine step_callg (by simp [Region.wanted]) 15 [.tmp 84] #[23] rfl [.slice A1 cl d1] (by first | (simp [Act.eval]; done) | simp [Act.eval, Act.put]) (fun W => by kernel_rfl) (HINK.out _ (Ext.refl w0).drew) ?_
    rintro e w1 ⟨A', c2, rfl, hsl, rfl⟩
    refine ⟨_, rfl, ?_⟩
    have HIN := Lib.hid (Ints_c A9 A' J J c9 c2 w0.drew HJM9.out HJM9.out (Sl.ext HSL9.out (Ext.refl w0).drew) hsl)
    rw [← HJL.out] at HIN
    refine hK.out _ _ ?_ (fun hHeld => ?_)
    · exact hHeld
    clear hK K
    try simp only [Act.put, List.setIfInBounds_toArray, List.set_cons_zero, List.set_cons_succ]
    refine wpAnyH_ready (rs := [4]) (by kernel_rfl) (by simp) ?_
    refine (AllReadyH.cons (o := { dst := some 86, op := _, type := _, pos := _, after := _, guard := _ }) rfl (fun K hK => ?_) AllReadyH.nil)
    · refine step_callg (by simp [Region.wanted]) 14 [.tmp 82, .tmp 85] #[23, 23] rfl [.slice A9 jl c9, .slice A' jl c2] (by first | (simp [Act.eval]; done) | simp [Act.eval, Act.put]) (fun W => by kernel_rfl) HIN.out ?_
      rw [show decide (J = J) = true from by simp]
      rintro e w1 ⟨rfl, q, rfl⟩
      refine ⟨_, rfl, ?_⟩
      refine hK.out _ _ ?_ (fun hHeld => ?_)
      · exact hHeld
      clear hK K
      try simp only [Act.put, List.setIfInBounds_toArray, List.set_cons_zero, List.set_cons_succ]
      refine wpAnyH_take (i := 5) (oi := { dst := some 87, op := _, type := _, pos := _, after := _, guard := _ }) (v := ?v1504) rfl (by kernel_rfl) (by kernel_rfl) (by kernel_rfl) (fun _ _ _ h => h) (Or.inl ⟨by rfl, ?hy1504⟩) (by assumption) ?rest1504
      case hy1504 => (intro w hSw; (try dsimp only at hSw); go_simp; (try with_reducible rfl))
      try simp only [Act.put, List.setIfInBounds_toArray, List.set_cons_zero, List.set_cons_succ]
      refine wpAnyH_ready (rs := [6, 7]) (by kernel_rfl) (by simp) ?_
      refine (AllReadyH.cons (o := { dst := some 88, op := _, type := _, pos := _, after := _, guard := _ }) rfl (fun K hK => ?_) (AllReadyH.cons (o := { dst := some 89, op := _, type := _, pos := _, after := _, guard := _ }) rfl (fun K hK => ?_) AllReadyH.nil))
      · refine step_load_rowg (by first | (simp [Region.wanted, yielded]; done) | simp [Region.wanted, yielded, Act.put]) 25 _ rfl g11 (by first | (simp [Act.eval]; done) | simp [Act.eval, Act.put]) 25 cs11 (0, 0) _ (ext_heap (by first | exact HX3.out | (repeat (first | exact Ext.refl _ | apply Ext.drewN | apply Ext.drew))) HV11.out.g) Tryz.underlying25 rfl (by rw [HC11.out]; exact sizeQ) ?_
        refine hK.out _ _ ?_ (fun hHeld => ?_)
        · exact hHeld
        clear hK K
        try simp only [Act.put, List.setIfInBounds_toArray, List.set_cons_zero, List.set_cons_succ]
        refine wpAnyH_ready (rs := [7]) (by kernel_rfl) (by simp) ?_
        refine (AllReadyH.cons (o := { dst := some 89, op := _, type := _, pos := _, after := _, guard := _ }) rfl (fun K hK => ?_) AllReadyH.nil)
        · refine step_load_rowg (by first | (simp [Region.wanted, yielded]; done) | simp [Region.wanted, yielded, Act.put]) 25 _ rfl g5 (by first | (simp [Act.eval]; done) | simp [Act.eval, Act.put]) 25 cs5 (0, 0) _ (ext_heap (by first | exact HX3.out | (repeat (first | exact Ext.refl _ | apply Ext.drewN | apply Ext.drew))) HV5.out.g) Tryz.underlying25 rfl (by rw [HC5.out]; exact sizeQ) ?_
          refine hK.out _ _ ?_ (fun hHeld => ?_)
          · exact hHeld
          clear hK K
          try simp only [Act.put, List.setIfInBounds_toArray, List.set_cons_zero, List.set_cons_succ]
          refine wpAnyH_ready (rs := [8]) (by kernel_rfl) (by simp) ?_
          refine (AllReadyH.cons (o := { dst := some 90, op := _, type := _, pos := _, after := _, guard := _ }) rfl (fun K hK => ?_) AllReadyH.nil)
          · refine step_callg (by first | (simp [Region.wanted, yielded]; done) | simp [Region.wanted, yielded, Act.put]) 16 [.tmp 89] #[25] rfl [.agg cs5] (by first | (simp [Act.eval]; done) | simp [Act.eval, Act.put]) (fun W => by kernel_rfl) (mirrored_c cs5 s _ (HV5.out.st.ext (show Ext w0 (w0.drew.drewN q) from (Ext.refl w0).drew.drewN q)) HOK.out.1 HOK.out.2) ?_
            rintro e w3 ⟨cz, rfl, hst3, hx3⟩
            refine ⟨_, rfl, ?_⟩
            have HX3 := Lib.hid (show Ext w0 w3 from ((Ext.refl w0).drew.drewN q).trans hx3)
            have HM3 := Lib.hid hst3
            refine hK.out _ _ ?_ (fun hHeld => ?_)
            · exact hx3.cell hHeld
            clear hK K
            try simp only [Act.put, List.setIfInBounds_toArray, List.set_cons_zero, List.set_cons_succ]
            refine wpAnyH_ready (rs := [9]) (by kernel_rfl) (by simp) ?_
            refine (AllReadyH.cons (o := { dst := some 91, op := _, type := _, pos := _, after := _, guard := _ }) rfl (fun K hK => ?_) AllReadyH.nil)
            · refine step_callg (by first | (simp [Region.wanted, yielded]; done) | simp [Region.wanted, yielded, Act.put]) 13 [.tmp 88, .tmp 90] #[25, 25] rfl [.agg cs11, .agg cz] (by first | (simp [Act.eval]; done) | simp [Act.eval, Act.put]) (fun W => by kernel_rfl) (SameTape_c cs11 cz _ _ w3 (HV11.out.st.ext HX3.out) HM3.out) ?_
              rw [sameTB_refl]
              rintro e w4 ⟨rfl, hx4⟩
              refine ⟨_, rfl, ?_⟩
              have HX4 := Lib.hid (HX.out.trans (HX3.out.trans hx4))
              refine hK.out _ _ ?_ (fun hHeld => ?_)
              · exact hx4.cell hHeld
              clear hK K
              try simp only [Act.put, List.setIfInBounds_toArray, List.set_cons_zero, List.set_cons_succ]
              refine wpAnyH_take (i := 10) (oi := { dst := some 92, op := _, type := _, pos := _, after := _, guard := _ }) (v := ?v1505) rfl (by kernel_rfl) (by kernel_rfl) (by kernel_rfl) (fun _ _ _ h => h) (Or.inl ⟨by rfl, ?hy1505⟩) (by assumption) ?rest1505
              case hy1505 => (intro w hSw; (try dsimp only at hSw); go_simp; (try with_reducible rfl))
              try simp only [Act.put, List.setIfInBounds_toArray, List.set_cons_zero, List.set_cons_succ]
              refine wpAnyH_take (i := 11) (oi := { dst := some 6, op := _, type := _, pos := _, after := _, guard := _ }) (v := ?v1506) rfl (by kernel_rfl) (by kernel_rfl) (by kernel_rfl) (fun _ _ _ h => h) (Or.inl ⟨by rfl, ?hy1506⟩) (by assumption) ?rest1506
              case hy1506 => (intro w hSw; (try dsimp only at hSw); go_simp; (try with_reducible rfl))
              try simp only [Act.put, List.setIfInBounds_toArray, List.set_cons_zero, List.set_cons_succ]
              refine wpAnyH_done (by kernel_rfl) ?_ _
              go_wp2_with fail
              go_ret
              exact ⟨rfl, HX4.out⟩
      · refine step_load_rowg (by first | (simp [Region.wanted, yielded]; done) | simp [Region.wanted, yielded, Act.put]) 25 _ rfl g5 (by first | (simp [Act.eval]; done) | simp [Act.eval, Act.put]) 25 cs5 (0, 0) _ (ext_heap (by first | exact HX3.out | (repeat (first | exact Ext.refl _ | apply Ext.drewN | apply Ext.drew))) HV5.out.g) Tryz.underlying25 rfl (by rw [HC5.out]; exact sizeQ) ?_
        refine hK.out _ _ ?_ (fun hHeld => ?_)
        · exact hHeld
        clear hK K
        try simp only [Act.put, List.setIfInBounds_toArray, List.set_cons_zero, List.set_cons_succ]
        refine wpAnyH_ready (rs := [6, 8]) (by kernel_rfl) (by simp) ?_
        refine (AllReadyH.cons (o := { dst := some 88, op := _, type := _, pos := _, after := _, guard := _ }) rfl (fun K hK => ?_) (AllReadyH.cons (o := { dst := some 90, op := _, type := _, pos := _, after := _, guard := _ }) rfl (fun K hK => ?_) AllReadyH.nil))
        · refine step_load_rowg (by first | (simp [Region.wanted, yielded]; done) | simp [Region.wanted, yielded, Act.put]) 25 _ rfl g11 (by first | (simp [Act.eval]; done) | simp [Act.eval, Act.put]) 25 cs11 (0, 0) _ (ext_heap (by first | exact HX3.out | (repeat (first | exact Ext.refl _ | apply Ext.drewN | apply Ext.drew))) HV11.out.g) Tryz.underlying25 rfl (by rw [HC11.out]; exact sizeQ) ?_
          refine hK.out _ _ ?_ (fun hHeld => ?_)
          · exact hHeld
          clear hK K
          try simp only [Act.put, List.setIfInBounds_toArray, List.set_cons_zero, List.set_cons_succ]
          refine wpAnyH_ready (rs := [8]) (by kernel_rfl) (by simp) ?_
          refine (AllReadyH.cons (o := { dst := some 90, op := _, type := _, pos := _, after := _, guard := _ }) rfl (fun K hK => ?_) AllReadyH.nil)
          · refine step_callg (by first | (simp [Region.wanted, yielded]; done) | simp [Region.wanted, yielded, Act.put]) 16 [.tmp 89] #[25] rfl [.agg cs5] (by first | (simp [Act.eval]; done) | simp [Act.eval, Act.put]) (fun W => by kernel_rfl) (mirrored_c cs5 s _ (HV5.out.st.ext (show Ext w0 (w0.drew.drewN q) from (Ext.refl w0).drew.drewN q)) HOK.out.1 HOK.out.2) ?_
            rintro e w3 ⟨cz, rfl, hst3, hx3⟩
            refine ⟨_, rfl, ?_⟩
            have HX3 := Lib.hid (show Ext w0 w3 from ((Ext.refl w0).drew.drewN q).trans hx3)
            have HM3 := Lib.hid hst3
            refine hK.out _ _ ?_ (fun hHeld => ?_)
            · exact hx3.cell hHeld
            clear hK K
            try simp only [Act.put, List.setIfInBounds_toArray, List.set_cons_zero, List.set_cons_succ]
            refine wpAnyH_ready (rs := [9]) (by kernel_rfl) (by simp) ?_
            refine (AllReadyH.cons (o := { dst := some 91, op := _, type := _, pos := _, after := _, guard := _ }) rfl (fun K hK => ?_) AllReadyH.nil)
            · refine step_callg (by first | (simp [Region.wanted, yielded]; done) | simp [Region.wanted, yielded, Act.put]) 13 [.tmp 88, .tmp 90] #[25, 25] rfl [.agg cs11, .agg cz] (by first | (simp [Act.eval]; done) | simp [Act.eval, Act.put]) (fun W => by kernel_rfl) (SameTape_c cs11 cz _ _ w3 (HV11.out.st.ext HX3.out) HM3.out) ?_
              rw [sameTB_refl]
              rintro e w4 ⟨rfl, hx4⟩
              refine ⟨_, rfl, ?_⟩
              have HX4 := Lib.hid (HX.out.trans (HX3.out.trans hx4))
              refine hK.out _ _ ?_ (fun hHeld => ?_)
              · exact hx4.cell hHeld
              clear hK K
              try simp only [Act.put, List.setIfInBounds_toArray, List.set_cons_zero, List.set_cons_succ]
              refine wpAnyH_take (i := 10) (oi := { dst := some 92, op := _, type := _, pos := _, after := _, guard := _ }) (v := ?v1507) rfl (by kernel_rfl) (by kernel_rfl) (by kernel_rfl) (fun _ _ _ h => h) (Or.inl ⟨by rfl, ?hy1507⟩) (by assumption) ?rest1507
              case hy1507 => (intro w hSw; (try dsimp only at hSw); go_simp; (try with_reducible rfl))
              try simp only [Act.put, List.setIfInBounds_toArray, List.set_cons_zero, List.set_cons_succ]
              refine wpAnyH_take (i := 11) (oi := { dst := some 6, op := _, type := _, pos := _, after := _, guard := _ }) (v := ?v1508) rfl (by kernel_rfl) (by kernel_rfl) (by kernel_rfl) (fun _ _ _ h => h) (Or.inl ⟨by rfl, ?hy1508⟩) (by assumption) ?rest1508
              case hy1508 => (intro w hSw; (try dsimp only at hSw); go_simp; (try with_reducible rfl))
              try simp only [Act.put, List.setIfInBounds_toArray, List.set_cons_zero, List.set_cons_succ]
              refine wpAnyH_done (by kernel_rfl) ?_ _
              go_wp2_with fail
              go_ret
              exact ⟨rfl, HX4.out⟩
        · refine step_callg (by first | (simp [Region.wanted, yielded]; done) | simp [Region.wanted, yielded, Act.put]) 16 [.tmp 89] #[25] rfl [.agg cs5] (by first | (simp [Act.eval]; done) | simp [Act.eval, Act.put]) (fun W => by kernel_rfl) (mirrored_c cs5 s _ (HV5.out.st.ext (show Ext w0 (w0.drew.drewN q) from (Ext.refl w0).drew.drewN q)) HOK.out.1 HOK.out.2) ?_
          rintro e w3 ⟨cz, rfl, hst3, hx3⟩
          refine ⟨_, rfl, ?_⟩
          have HX3 := Lib.hid (show Ext w0 w3 from ((Ext.refl w0).drew.drewN q).trans hx3)
          have HM3 := Lib.hid hst3
          refine hK.out _ _ ?_ (fun hHeld => ?_)
          · exact hx3.cell hHeld
          clear hK K
          try simp only [Act.put, List.setIfInBounds_toArray, List.set_cons_zero, List.set_cons_succ]
          refine wpAnyH_ready (rs := [6]) (by kernel_rfl) (by simp) ?_
          refine (AllReadyH.cons (o := { dst := some 88, op := _, type := _, pos := _, after := _, guard := _ }) rfl (fun K hK => ?_) AllReadyH.nil)
          · refine step_load_rowg (by first | (simp [Region.wanted, yielded]; done) | simp [Region.wanted, yielded, Act.put]) 25 _ rfl g11 (by first | (simp [Act.eval]; done) | simp [Act.eval, Act.put]) 25 cs11 (0, 0) _ (ext_heap (by first | exact HX3.out | (repeat (first | exact Ext.refl _ | apply Ext.drewN | apply Ext.drew))) HV11.out.g) Tryz.underlying25 rfl (by rw [HC11.out]; exact sizeQ) ?_
            refine hK.out _ _ ?_ (fun hHeld => ?_)
            · exact hHeld
            clear hK K
            try simp only [Act.put, List.setIfInBounds_toArray, List.set_cons_zero, List.set_cons_succ]
            refine wpAnyH_ready (rs := [9]) (by kernel_rfl) (by simp) ?_
            refine (AllReadyH.cons (o := { dst := some 91, op := _, type := _, pos := _, after := _, guard := _ }) rfl (fun K hK => ?_) AllReadyH.nil)
            · refine step_callg (by first | (simp [Region.wanted, yielded]; done) | simp [Region.wanted, yielded, Act.put]) 13 [.tmp 88, .tmp 90] #[25, 25] rfl [.agg cs11, .agg cz] (by first | (simp [Act.eval]; done) | simp [Act.eval, Act.put]) (fun W => by kernel_rfl) (SameTape_c cs11 cz _ _ w3 (HV11.out.st.ext HX3.out) HM3.out) ?_
              rw [sameTB_refl]
              rintro e w4 ⟨rfl, hx4⟩
              refine ⟨_, rfl, ?_⟩
              have HX4 := Lib.hid (HX.out.trans (HX3.out.trans hx4))
              refine hK.out _ _ ?_ (fun hHeld => ?_)
              · exact hx4.cell hHeld
              clear hK K
              try simp only [Act.put, List.setIfInBounds_toArray, List.set_cons_zero, List.set_cons_succ]
              refine wpAnyH_take (i := 10) (oi := { dst := some 92, op := _, type := _, pos := _, after := _, guard := _ }) (v := ?v1509) rfl (by kernel_rfl) (by kernel_rfl) (by kernel_rfl) (fun _ _ _ h => h) (Or.inl ⟨by rfl, ?hy1509⟩) (by assumption) ?rest1509
              case hy1509 => (intro w hSw; (try dsimp only at hSw); go_simp; (try with_reducible rfl))
              try simp only [Act.put, List.setIfInBounds_toArray, List.set_cons_zero, List.set_cons_succ]
              refine wpAnyH_take (i := 11) (oi := { dst := some 6, op := _, type := _, pos := _, after := _, guard := _ }) (v := ?v1510) rfl (by kernel_rfl) (by kernel_rfl) (by kernel_rfl) (fun _ _ _ h => h) (Or.inl ⟨by rfl, ?hy1510⟩) (by assumption) ?rest1510
              case hy1510 => (intro w hSw; (try dsimp only at hSw); go_simp; (try with_reducible rfl))
              try simp only [Act.put, List.setIfInBounds_toArray, List.set_cons_zero, List.set_cons_succ]
              refine wpAnyH_done (by kernel_rfl) ?_ _
              go_wp2_with fail
              go_ret
              exact ⟨rfl, HX4.out⟩
end Go.Proofs.YtbaahbpianingaaGreatDoor
