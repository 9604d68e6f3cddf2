import Derived.Test.YtbaahbpianingaaDoorTqM
import Derived.Test.YtbaahbpianingaaDoorTqJ
namespace Go.Proofs.YtbaahbpianingaaDoor
open Go Go.Proofs Go.RowKit
open Tape (Rule Ts)
set_option maxHeartbeats 12800000
set_option maxRecDepth 100000
theorem runGT_one (s : Ts) : (runGT s 1).2.2 = faultT s := by
  unfold runGT
  by_cases h : faultT s = (0, 0)
  · rw [if_pos h, if_pos (by decide), h]
  · rw [if_neg h]
theorem wpList_buildQg {w : World} {ops : Array Oper} {rest : List Oper} {o : Oper} {a : Act} {Q : Exit → Act → World → Prop} (hw : Region.wanted o (yielded ops a.tmps) = true) (ho : o.op = .build 54 #[])
    (h : wpList Tryd.prog ops Q rest (a.put o.dst (.agg zeroTs)) w) : wpList Tryd.prog ops Q (o :: rest) a w := by
  refine wpList_step fun K hK => ?_
  rw [if_pos hw]
  have hr : (Instr.build 54 #[]).run Tryd.prog w = .ok (.agg zeroTs) w := by kernel_rfl
  unfold Oper.wp execOp
  simp only [ho, List.map_toArray, List.map_nil, Sem.run_bind, hr, Sem.run_pure, Result.andThen_ok]
  exact hK _ _ h
theorem ts0_any {w F : World} {c : Array Value} (h : TsIs w c ts0) : TsIs F c ts0 := by
  obtain ⟨A, c0, h1, h2, h3, h4, _⟩ := h.rules
  obtain ⟨B, d, k1, k2, k3, k4, _⟩ := h.cells
  exact ⟨h.size, ⟨A, c0, h1, h2, h3, h4, SlC.nil _ _⟩, ⟨B, d, k1, k2, k3, k4, SlC.nil _ _⟩, h.at_, h.state, h.stop, h.wf⟩
theorem asgOneT (w1 : World) {cs' : Array Value} {s : Ts} (h : TsIs w1 cs' s) : VarT ((w1.alloc (.cells zeroTs 54)).setRow w1.heap.size cs') w1.heap.size cs' s ∧ Ext w1 ((w1.alloc (.cells zeroTs 54)).setRow w1.heap.size cs') :=
  have x : Ext w1 ((w1.alloc (.cells zeroTs 54)).setRow w1.heap.size cs') := ((Ext.refl w1).alloc _).setRow (Nat.le_refl _) _
  ⟨⟨setRow_heap _ _ _ _ _ _ (heap_alloc_new w1 _), h.ext x⟩, x⟩
theorem runMatchT_c (cs : Array Value) (s : Ts) (n : Int) (w : World) (h : TsIs w cs s) (ht : TabT w) : Calls Tryd.prog 8 #[.agg cs, .int .i64 n] w (BRet w true) := by
  have HT := Lib.hid ht
  have HH := Lib.hid h
  obtain ⟨T, tn, tc, ti, htg⟩ : ∃ T tn tc ti, runGT s n = (T, tn, (tc, ti)) := ⟨_, _, _, _, rfl⟩
  have HTG := Lib.hid htg
  obtain ⟨uc, ui, huf⟩ : ∃ uc ui, faultT s = (uc, ui) := ⟨_, _, rfl⟩
  have HUF := Lib.hid huf
  obtain ⟨U, hu⟩ : ∃ U, (runGT s 1).1 = U := ⟨_, rfl⟩
  have HU := Lib.hid hu
  have HU2 : Hid ((runGT s 1).2.2 = (uc, ui)) := Lib.hid (by rw [runGT_one, huf])
  clear ht h htg huf hu
  go_enter Tryd.func8, Tryd.ntmps8
  go_upto_region 0 with (fail)
  go_cut [2, 4] (fun s2 s4 wx => s2 = .pointer (some ⟨w.heap.size, 0, none⟩) ∧ s4 = .bool false ∧ VarT wx w.heap.size cs s ∧ Ext w wx)
  case first =>
    go_wp2_with fail
    go_meet
    exact ⟨rfl, rfl, ⟨heap_alloc_new w _, HH.out.ext ((Ext.refl w).alloc _)⟩, (Ext.refl w).alloc _⟩
  obtain ⟨rfl, rfl, hv, hx⟩ := hcut
  obtain ⟨g2, hg2⟩ : ∃ g2, w.heap.size = g2 := ⟨_, rfl⟩
  obtain ⟨cs2, hcs2⟩ : ∃ cs2, cs = cs2 := ⟨_, rfl⟩
  rw [hg2, hcs2] at hv
  rw [hg2]
  clear HH hg2 hcs2
  obtain ⟨v1, rfl⟩ : ∃ v1 : World, v1 = wc := ⟨_, rfl⟩
  have HX := Lib.hid hx
  have HV2 := Lib.hid hv
  have HC2 := Lib.hid hv.st.size
  clear hv hx
  go_upto_region 1 with (fail)
  go_cut [5, 6, 7] (fun sa sn sb wx => ∃ g cs, sa = .pointer (some ⟨g, 0, none⟩) ∧ sn = .int .i64 tn ∧ sb = .pointer (some ⟨g + 1, 0, none⟩) ∧ VarT wx g cs T ∧ wx.heap[g + 1]? = some (.cells #[.int .i64 tc, .int .i64 ti] 28 (0, 0)) ∧ Ext v1 wx)
  case first =>
    have HR := Lib.hid (runT_all cs2 s n v1 HV2.out.st)
    go_wp2_with (refine wpList_load_row rfl 54 _ rfl g2 rfl 54 cs2 (0, 0) _ HV2.out.g Tryd.underlying54 rfl (by rw [HC2.out]; exact sizeQ) ?_)
    refine HR.out.mono ?_
    rw [HTG.out]
    rintro e w1 ⟨cs', rfl, hst, hx1⟩
    have HA := Lib.hid (asgT_mk w1 hst.st (tc) (ti))
    have HS2 := Lib.hid hst.st.size
    have HO := Lib.hid (tsq_one hst.st)
    have HX1 := Lib.hid hx1
    have HZ := Lib.hid (heap_alloc2_old w1 (.cells zeroTs 54) (.cells #[.int .i64 0, .int .i64 0] 28))
    have HF := Lib.hid ((setRow_other _ w1.heap.size (w1.heap.size + 1) cs' (by omega)).trans (heap_alloc2_new w1 (.cells zeroTs 54) (.cells #[.int .i64 0, .int .i64 0] 28)))
    clear hst hx1
    simp only [fAgg]
    go_wp2_with (first | refine wpList_allocQ rfl rfl ?_ | refine wpList_store_row rfl 54 _ _ rfl w1.heap.size cs' rfl rfl 54 zeroTs HZ.out (by rw [HS2.out]; exact sizeQ) (by rw [HS2.out]; rfl) HO.out ?_ | refine wpList_store_row rfl 28 _ _ rfl (w1.heap.size + 1) #[.int .i64 tc, .int .i64 ti] rfl rfl 28 _ HF.out sizeF rfl (by kernel_rfl) ?_)
    go_meet
    exact ⟨_, cs', rfl, rfl, rfl, HA.out.v, HA.out.f, HX1.out.trans HA.out.x⟩
  obtain ⟨g5, cs5, rfl, rfl, rfl, hv, hf, hx⟩ := hcut
  obtain ⟨v2, rfl⟩ : ∃ v2 : World, v2 = wc := ⟨_, rfl⟩
  have HV2 := Lib.hid (HV2.out.ext hx)
  have HX := Lib.hid (HX.out.trans hx)
  have HV5 := Lib.hid hv
  have HF7 := Lib.hid hf
  have HC5 := Lib.hid hv.st.size
  clear hv hf hx
  go_upto_region 2 with (fail)
  go_cut [8, 9] (fun sa sb wx => ∃ g cs, sa = .pointer (some ⟨g, 0, none⟩) ∧ sb = .pointer (some ⟨g + 1, 0, none⟩) ∧ VarT wx g cs U ∧ wx.heap[g + 1]? = some (.cells #[.int .i64 uc, .int .i64 ui] 28 (0, 0)) ∧ Ext v2 wx)
  case first =>
    have HR := Lib.hid (stepT_go cs2 s v2 HV2.out.st)
    go_wp2_with (refine wpList_load_row rfl 54 _ rfl g2 rfl 54 cs2 (0, 0) _ HV2.out.g Tryd.underlying54 rfl (by rw [HC2.out]; exact sizeQ) ?_)
    refine HR.out.mono ?_
    rw [HU.out, HU2.out]
    rintro e w1 ⟨cs', rfl, hst, hx1⟩
    have HA := Lib.hid (asgT_mk w1 hst.st (uc) (ui))
    have HS2 := Lib.hid hst.st.size
    have HO := Lib.hid (tsq_one hst.st)
    have HX1 := Lib.hid hx1
    have HZ := Lib.hid (heap_alloc2_old w1 (.cells zeroTs 54) (.cells #[.int .i64 0, .int .i64 0] 28))
    have HF := Lib.hid ((setRow_other _ w1.heap.size (w1.heap.size + 1) cs' (by omega)).trans (heap_alloc2_new w1 (.cells zeroTs 54) (.cells #[.int .i64 0, .int .i64 0] 28)))
    clear hst hx1
    simp only [fAgg]
    go_wp2_with (first | refine wpList_allocQ rfl rfl ?_ | refine wpList_store_row rfl 54 _ _ rfl w1.heap.size cs' rfl rfl 54 zeroTs HZ.out (by rw [HS2.out]; exact sizeQ) (by rw [HS2.out]; rfl) HO.out ?_ | refine wpList_store_row rfl 28 _ _ rfl (w1.heap.size + 1) #[.int .i64 uc, .int .i64 ui] rfl rfl 28 _ HF.out sizeF rfl (by kernel_rfl) ?_)
    go_meet
    exact ⟨_, cs', rfl, rfl, HA.out.v, HA.out.f, HX1.out.trans HA.out.x⟩
  obtain ⟨g8, cs8, rfl, rfl, hv, hf, hx⟩ := hcut
  obtain ⟨v3, rfl⟩ : ∃ v3 : World, v3 = wc := ⟨_, rfl⟩
  have HV2 := Lib.hid (HV2.out.ext hx)
  have HV5 := Lib.hid (HV5.out.ext hx)
  have HF7 := Lib.hid (ext_heap hx HF7.out)
  have HX := Lib.hid (HX.out.trans hx)
  have HV8 := Lib.hid hv
  have HF9 := Lib.hid hf
  have HC8 := Lib.hid hv.st.size
  clear hv hf hx
  go_upto_region 3 with (fail)
  go_cut [10] (fun sa wx => ∃ g, sa = .pointer (some ⟨g, 0, none⟩) ∧ wx.heap[g]? = some (.cells #[.int .i64 uc, .int .i64 ui] 28 (0, 0)) ∧ Ext v3 wx ∧ v3.heap.size ≤ g)
  case first =>
    have hr := TapeFault_c cs2 s v3 HV2.out.st
    rw [HUF.out] at hr
    have HR := Lib.hid hr
    clear hr
    go_wp2_with (refine wpList_load_row rfl 54 _ rfl g2 rfl 54 cs2 (0, 0) _ HV2.out.g Tryd.underlying54 rfl (by rw [HC2.out]; exact sizeQ) ?_)
    refine HR.out.mono ?_
    rintro e w1 ⟨rfl, hx1⟩
    have HX1 := Lib.hid hx1
    have HF := Lib.hid (heap_alloc_new w1 (.cells #[.int .i64 0, .int .i64 0] 28))
    clear hx1
    simp only [fAgg]
    go_wp2_with (refine wpList_store_row rfl 28 _ _ rfl w1.heap.size #[.int .i64 uc, .int .i64 ui] rfl rfl 28 _ HF.out sizeF rfl (by kernel_rfl) ?_)
    go_meet
    exact ⟨_, rfl, setRow_heap _ _ _ _ _ _ HF.out, HX1.out.trans (((Ext.refl w1).alloc _).setRow (Nat.le_refl _) _), HX1.out.size⟩
  obtain ⟨g10, rfl, hf, hx, hg⟩ := hcut
  have HWG : Hid (w.heap.size ≤ g10) := Lib.hid (Nat.le_trans HX.out.size hg)
  have HG10 := Lib.hid (show g5 + 1 < g10 ∧ g5 < g10 from by
    have a := (Array.getElem?_eq_some_iff.1 HF7.out).1
    exact ⟨Nat.lt_of_lt_of_le a hg, Nat.lt_of_lt_of_le (Nat.lt_of_succ_lt a) hg⟩)
  obtain ⟨v4, rfl⟩ : ∃ v4 : World, v4 = wc := ⟨_, rfl⟩
  have HV2 := Lib.hid (HV2.out.ext hx)
  have HV5 := Lib.hid (HV5.out.ext hx)
  have HV8 := Lib.hid (HV8.out.ext hx)
  have HF7 := Lib.hid (ext_heap hx HF7.out)
  have HF9 := Lib.hid (ext_heap hx HF9.out)
  have HX := Lib.hid (HX.out.trans hx)
  have HF10 := Lib.hid hf
  clear hf hx hg
  have p0 : v4.cell? ⟨g8 + 1, 0, none⟩ = some (.int .i64 uc) := blk_cell HF9.out 0
  have p1 : v4.cell? ⟨g8 + 1, 1, none⟩ = some (.int .i64 ui) := blk_cell HF9.out 1
  have q0 : v4.cell? ⟨g10, 0, none⟩ = some (.int .i64 uc) := blk_cell HF10.out 0
  have q1 : v4.cell? ⟨g10, 1, none⟩ = some (.int .i64 ui) := blk_cell HF10.out 1
  have HTX := Lib.hid (HT.out.ext HX.out)
  go_upto_if 35 with (go_at_call 31; refine (taped_c _ HTX.out).mono ?_; rintro e w0 ⟨rfl, hx0⟩; have HX0 := Lib.hid hx0; have p0 := hx0.cell p0; have p1 := hx0.cell p1; have q0 := hx0.cell q0; have q1 := hx0.cell q1; clear hx0)
  have hx := HX0.out
  have HV2 := Lib.hid (HV2.out.ext hx)
  have HV5 := Lib.hid (HV5.out.ext hx)
  have HV8 := Lib.hid (HV8.out.ext hx)
  have HF7 := Lib.hid (ext_heap hx HF7.out)
  have HF9 := Lib.hid (ext_heap hx HF9.out)
  have HF10 := Lib.hid (ext_heap hx HF10.out)
  have HX := Lib.hid (HX.out.trans hx)
  clear hx
  go_upto_region 6 with (fail)
  clear p0 p1
  by_cases hz : uc = 0
  · have hf0 : faultT s = (0, 0) := by
      by_cases q : faultT s = (0, 0)
      · exact q
      · exact absurd (by rw [HUF.out]; exact hz) (faultT_code q)
    have hui : ui = 0 := by have := HUF.out; rw [hf0] at this; cases this; rfl
    subst hz
    subst hui
    have hU : U = (Tape.runF 1 s).1 := by rw [← HU.out]; unfold runGT; rw [if_pos hf0, if_pos (by decide)]; rfl
    subst hU
    have HF0 := Lib.hid hf0
    have HOK := Lib.hid (okt_of hf0).1
    clear hf0
    have q0 := q0
    go_upto_region 7 with (go_at_call 22; refine (In_c _ _ _ _).mono ?_; rintro e w' ⟨rfl, rfl⟩)
    go_cut [11, 12] (fun sa sb wx => ∃ g cs, sa = .pointer (some ⟨g, 0, none⟩) ∧ sb = .int .i64 ((Tape.runF 1 s).2 : Int) ∧ VarT wx g cs (Tape.runF 1 s).1 ∧ Ext w0 wx)
    case first =>
      have HR := Lib.hid (tapeRan_c cs2 s 1 w0 HV2.out.st HOK.out (by omega))
      go_wp2_with (refine wpList_load_row rfl 54 _ rfl g2 rfl 54 cs2 (0, 0) _ HV2.out.g Tryd.underlying54 rfl (by rw [HC2.out]; exact sizeQ) ?_)
      refine HR.out.mono ?_
      rintro e w1 ⟨cs', rfl, hst, hx1⟩
      have HA := Lib.hid (asgOneT w1 hst)
      have HS2 := Lib.hid hst.size
      have HO := Lib.hid (tsq_one hst)
      have HX1 := Lib.hid hx1
      have HZ := Lib.hid (heap_alloc_new w1 (.cells zeroTs 54))
      clear hst hx1
      go_wp2_with (first | refine wpList_allocQ rfl rfl ?_ | refine wpList_store_row rfl 54 _ _ rfl w1.heap.size cs' rfl rfl 54 zeroTs HZ.out (by rw [HS2.out]; exact sizeQ) (by rw [HS2.out]; rfl) HO.out ?_)
      go_meet
      exact ⟨_, cs', rfl, rfl, HA.out.1, HX1.out.trans HA.out.2⟩
    obtain ⟨g11, cs11, rfl, rfl, hv, hx⟩ := hcut
    obtain ⟨v5, rfl⟩ : ∃ v5 : World, v5 = wc := ⟨_, rfl⟩
    have HV2 := Lib.hid (HV2.out.ext hx)
    have HV5 := Lib.hid (HV5.out.ext hx)
    have HV8 := Lib.hid (HV8.out.ext hx)
    have HF7 := Lib.hid (ext_heap hx HF7.out)
    have HF9 := Lib.hid (ext_heap hx HF9.out)
    have HF10 := Lib.hid (ext_heap hx HF10.out)
    have HX := Lib.hid (HX.out.trans hx)
    have HV11 := Lib.hid hv
    have HC11 := Lib.hid hv.st.size
    clear hv hx
    clear q0 q1
    have HSM := Lib.hid (SameTape_c cs8 cs11 _ _ v5 HV8.out.st HV11.out.st)
    go_upto_region 10 with (first | refine wpList_load_row rfl 54 _ rfl g8 rfl 54 cs8 (0, 0) _ HV8.out.g Tryd.underlying54 rfl (by rw [HC8.out]; exact sizeQ) ?_ | refine wpList_load_row rfl 54 _ rfl g11 rfl 54 cs11 (0, 0) _ HV11.out.g Tryd.underlying54 rfl (by rw [HC11.out]; exact sizeQ) ?_ | (go_at_call 33; refine HSM.out.mono ?_; rw [sameTB_refl]; rintro e w0 ⟨rfl, hx0⟩; have HX0 := Lib.hid hx0; clear hx0))
    have hx := HX0.out
    have HV2 := Lib.hid (HV2.out.ext hx)
    have HV5 := Lib.hid (HV5.out.ext hx)
    have HV8 := Lib.hid (HV8.out.ext hx)
    have HV11 := Lib.hid (HV11.out.ext hx)
    have HF7 := Lib.hid (ext_heap hx HF7.out)
    have HF9 := Lib.hid (ext_heap hx HF9.out)
    have HF10 := Lib.hid (ext_heap hx HF10.out)
    have HX := Lib.hid (HX.out.trans hx)
    clear hx
    by_cases hr : 0 ≤ n ∧ n ≤ 60000
    · have hin : inB n 0 60000 = true := by unfold inB; simp; omega
      obtain ⟨N, rfl⟩ : ∃ N : Nat, n = N := ⟨n.toNat, by omega⟩
      have hT := HTG.out
      unfold runGT at hT; rw [if_pos HF0.out, if_pos hr, Int.toNat_natCast] at hT
      have h1 : tn = ((Tape.runF N s).2 : Int) := by cases hT; rfl
      have h2 : tc = 0 := by cases hT; rfl
      have h3 : ti = 0 := by cases hT; rfl
      have h4 : T = (Tape.runF N s).1 := by cases hT; rfl
      subst h1; subst h2; subst h3; subst h4
      have hNl : N ≤ 60000 := by omega
      clear hr hT
      have p0 : w0.cell? ⟨g5 + 1, 0, none⟩ = some (.int .i64 0) := blk_cell HF7.out 0
      have p1 : w0.cell? ⟨g5 + 1, 1, none⟩ = some (.int .i64 0) := blk_cell HF7.out 1
      have q0 : w0.cell? ⟨g10, 0, none⟩ = some (.int .i64 0) := blk_cell HF10.out 0
      have q1 : w0.cell? ⟨g10, 1, none⟩ = some (.int .i64 0) := blk_cell HF10.out 1
      go_upto_region 14 with (go_at_call 22; refine (In_c _ _ _ _).mono ?_; rintro e w' ⟨rfl, rfl⟩; rw [hin])
      go_upto_region 16 with (go_at_call 22; refine (In_c _ _ _ _).mono ?_; rintro e w' ⟨rfl, rfl⟩)
      go_cut [13, 14] (fun sa sb wx => ∃ g cs, sa = .pointer (some ⟨g, 0, none⟩) ∧ sb = .int .i64 ((Tape.runF N s).2 : Int) ∧ VarT wx g cs (Tape.runF N s).1 ∧ Ext w0 wx)
      case first =>
        have HR := Lib.hid (tapeRan_c cs2 s N w0 HV2.out.st HOK.out (by omega))
        go_wp2_with (refine wpList_load_row rfl 54 _ rfl g2 rfl 54 cs2 (0, 0) _ HV2.out.g Tryd.underlying54 rfl (by rw [HC2.out]; exact sizeQ) ?_)
        refine HR.out.mono ?_
        rintro e w1 ⟨cs', rfl, hst, hx1⟩
        have HA := Lib.hid (asgOneT w1 hst)
        have HS2 := Lib.hid hst.size
        have HO := Lib.hid (tsq_one hst)
        have HX1 := Lib.hid hx1
        have HZ := Lib.hid (heap_alloc_new w1 (.cells zeroTs 54))
        clear hst hx1
        go_wp2_with (first | refine wpList_allocQ rfl rfl ?_ | refine wpList_store_row rfl 54 _ _ rfl w1.heap.size cs' rfl rfl 54 zeroTs HZ.out (by rw [HS2.out]; exact sizeQ) (by rw [HS2.out]; rfl) HO.out ?_)
        go_meet
        exact ⟨_, cs', rfl, rfl, HA.out.1, HX1.out.trans HA.out.2⟩
      obtain ⟨g13, cs13, rfl, rfl, hv, hx⟩ := hcut
      obtain ⟨v6, rfl⟩ : ∃ v6 : World, v6 = wc := ⟨_, rfl⟩
      have HV2 := Lib.hid (HV2.out.ext hx)
      have HV5 := Lib.hid (HV5.out.ext hx)
      have HV8 := Lib.hid (HV8.out.ext hx)
      have HV11 := Lib.hid (HV11.out.ext hx)
      have HF7 := Lib.hid (ext_heap hx HF7.out)
      have HF9 := Lib.hid (ext_heap hx HF9.out)
      have HF10 := Lib.hid (ext_heap hx HF10.out)
      have HX := Lib.hid (HX.out.trans hx)
      have HV13 := Lib.hid hv
      have HC13 := Lib.hid hv.st.size
      clear hv hx
      have HSM := Lib.hid (SameTape_c cs5 cs13 _ _ v6 HV5.out.st HV13.out.st)
      clear p0 p1 q0 q1
      go_wp2_with (first | refine wpList_load_rowg (by rfl) 54 _ rfl g5 (by rfl) 54 cs5 (0, 0) _ HV5.out.g Tryd.underlying54 rfl (by rw [HC5.out]; exact sizeQ) ?_ | refine wpList_load_rowg (by rfl) 54 _ rfl g13 (by rfl) 54 cs13 (0, 0) _ HV13.out.g Tryd.underlying54 rfl (by rw [HC13.out]; exact sizeQ) ?_)
      refine HSM.out.mono ?_
      rw [sameTB_refl]
      rintro e w9 ⟨rfl, hx9⟩
      have HX9 := Lib.hid (HX.out.trans hx9)
      clear hx9
      go_wp2_with fail
      go_ret
      exact ⟨rfl, HX9.out⟩
    · have hin : inB n 0 60000 = false := by unfold inB; simp; omega
      have hT := HTG.out
      unfold runGT at hT; rw [if_pos HF0.out, if_neg hr] at hT
      have h1 : tn = 0 := by cases hT; rfl
      have h2 : tc = 4 := by cases hT; rfl
      have h3 : ti = -2 := by cases hT; rfl
      have h4 : T = ts0 := by cases hT; rfl
      subst h1; subst h2; subst h3; subst h4
      clear hr hT
      have HF10 := Lib.hid (ext_heap ((Ext.refl w0).alloc (.cells #[.int .i64 4, .int .i64 (-2)] 28)) HF10.out)
      have hx : Ext w0 (w0.alloc (.cells #[.int .i64 4, .int .i64 (-2)] 28)) := (Ext.refl _).alloc _
      have HV2 := Lib.hid (HV2.out.ext hx)
      have HV5 := Lib.hid (HV5.out.ext hx)
      have HV8 := Lib.hid (HV8.out.ext hx)
      have HV11 := Lib.hid (HV11.out.ext hx)
      have HF7 := Lib.hid (ext_heap hx HF7.out)
      have HF9 := Lib.hid (ext_heap hx HF9.out)
      have HX := Lib.hid (HX.out.trans hx)
      clear hx
      have hgl := HG10.out
      go_upto_region 12 with (first | (go_at_call 22; refine (In_c _ _ _ _).mono ?_; rintro e w' ⟨rfl, rfl⟩; rw [hin]) | (go_at_call 14; refine (At_c _ _ _).mono ?_; rintro e w' ⟨rfl, rfl⟩) | refine wpList_store_row rfl 28 _ _ rfl g10 #[.int .i64 4, .int .i64 (-2)] rfl rfl 28 _ HF10.out sizeF rfl (by kernel_rfl) ?_)
      refine wp_worldT (fun wx => wx.heap[g10]? = some (.cells #[.int .i64 4, .int .i64 (-2)] 28 (0, 0)) ∧ wx.heap[g5 + 1]? = some (.cells #[.int .i64 4, .int .i64 (-2)] 28 (0, 0)) ∧ wx.heap[g5]? = some (.cells cs5 54 (0, 0)) ∧ Ext w wx) ⟨setRow_heap _ _ _ _ _ _ HF10.out, (setRow_other _ _ _ _ (by omega)).trans HF7.out, (setRow_other _ _ _ _ (by omega)).trans HV5.out.g, HX.out.setRow HWG.out _⟩ ?_
      rintro wp ⟨j1, j2, j3, j4⟩
      have p0 : wp.cell? ⟨g10, 0, none⟩ = some (.int .i64 4) := blk_cell j1 0
      have p1 : wp.cell? ⟨g10, 1, none⟩ = some (.int .i64 (-2)) := blk_cell j1 1
      have q0 : wp.cell? ⟨g5 + 1, 0, none⟩ = some (.int .i64 4) := blk_cell j2 0
      have q1 : wp.cell? ⟨g5 + 1, 1, none⟩ = some (.int .i64 (-2)) := blk_cell j2 1
      have J3 := Lib.hid j3
      have J4 := Lib.hid j4
      clear j1 j2 j3 j4
      have HSM := Lib.hid (SameTape_c cs5 zeroTs ts0 ts0 wp (ts0_any HV5.out.st) (zeroT_is wp))
      go_wp2_with (first | refine wpList_load_rowg (by rfl) 54 _ rfl g5 (by rfl) 54 cs5 (0, 0) _ J3.out Tryd.underlying54 rfl (by rw [HC5.out]; exact sizeQ) ?_ | refine wpList_buildQg (by rfl) rfl ?_)
      refine HSM.out.mono ?_
      rw [sameTB_refl]
      rintro e w9 ⟨rfl, hx9⟩
      have HX9 := Lib.hid (J4.out.trans hx9)
      clear hx9
      go_wp2_with fail
      go_ret
      exact ⟨rfl, HX9.out⟩
  · have hf1 : faultT s ≠ (0, 0) := fun q => hz (by have := HUF.out; rw [q] at this; cases this; rfl)
    have hT := HTG.out
    unfold runGT at hT; rw [if_neg hf1, HUF.out] at hT
    have h1 : tn = 0 := by cases hT; rfl
    have h2 : tc = uc := by cases hT; rfl
    have h3 : ti = ui := by cases hT; rfl
    have h4 : T = ts0 := by cases hT; rfl
    subst h1; subst h2; subst h3; subst h4
    have m1 : (tc == 0) = false := by simpa using hz
    have m2 : (tc != 0) = true := by simpa using hz
    clear hf1 hT
    have p0 : w0.cell? ⟨g5 + 1, 0, none⟩ = some (.int .i64 tc) := blk_cell HF7.out 0
    have p1 : w0.cell? ⟨g5 + 1, 1, none⟩ = some (.int .i64 ti) := blk_cell HF7.out 1
    have HSM := Lib.hid (SameTape_c cs5 zeroTs ts0 ts0 w0 HV5.out.st (zeroT_is _))
    go_wp2_with (first | refine wpList_load_rowg (by rfl) 54 _ rfl g5 (by rfl) 54 cs5 (0, 0) _ HV5.out.g Tryd.underlying54 rfl (by rw [HC5.out]; exact sizeQ) ?_ | refine wpList_buildQg (by rfl) rfl ?_)
    refine HSM.out.mono ?_
    rw [sameTB_refl]
    rintro e w9 ⟨rfl, hx9⟩
    have HX9 := Lib.hid (HX.out.trans hx9)
    clear hx9
    go_wp2_with fail
    go_ret
    exact ⟨rfl, HX9.out⟩
end Go.Proofs.YtbaahbpianingaaDoor
