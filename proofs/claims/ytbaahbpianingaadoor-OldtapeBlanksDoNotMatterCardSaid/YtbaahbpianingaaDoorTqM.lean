import Derived.Test.YtbaahbpianingaaDoorMg35
import Derived.Test.YtbaahbpianingaaDoorTqG
namespace Go.Proofs.YtbaahbpianingaaDoor
open Go Go.Proofs Go.RowKit
open Tape (Rule Ts)
set_option maxHeartbeats 12800000
set_option maxRecDepth 100000
theorem mirrorsT_c (cs : Array Value) (s : Ts) (n : Int) (w : World) (h : TsIs w cs s) (ht : TabT w) : Calls Tryd.prog 10 #[.agg cs, .int .i64 n] w (BRet w true) := by
  have HT := Lib.hid ht
  have HH := Lib.hid h
  obtain ⟨M, mc, mi, hmg⟩ : ∃ M mc mi, mirrorG s = (M, (mc, mi)) := ⟨_, _, _, rfl⟩
  have HMG := Lib.hid hmg
  obtain ⟨T, tn, tc, ti, htg⟩ : ∃ T tn tc ti, runGT s n = (T, tn, (tc, ti)) := ⟨_, _, _, _, rfl⟩
  have HTG := Lib.hid htg
  clear ht h hmg htg
  go_enter Tryd.func10, Tryd.ntmps10
  go_upto_region 0 with (fail)
  go_cut [2, 4] (fun s2 s4 wx => s2 = .pointer (some ⟨w.heap.size, 0, none⟩) ∧ s4 = .bool false ∧ VarT wx w.heap.size cs s ∧ Ext w wx)
  case first =>
    go_wp2_with fail
    go_meet
    exact ⟨rfl, rfl, ⟨heap_alloc_new w _, HH.out.ext ((Ext.refl w).alloc _)⟩, (Ext.refl w).alloc _⟩
  obtain ⟨rfl, rfl, hv, hx⟩ := hcut
  obtain ⟨g2, hg2⟩ : ∃ g2, w.heap.size = g2 := ⟨_, rfl⟩
  obtain ⟨cs2, hcs2⟩ : ∃ cs2, cs = cs2 := ⟨_, rfl⟩
  rw [hg2, hcs2] at hv
  rw [hg2]
  clear HH hg2 hcs2
  obtain ⟨v1, rfl⟩ : ∃ v1 : World, v1 = wc := ⟨_, rfl⟩
  have HX := Lib.hid hx
  have HV2 := Lib.hid hv
  have HC2 := Lib.hid hv.st.size
  clear hv hx
  go_upto_region 3 with (go_at_call 31; refine (taped_c _ (HT.out.ext HX.out)).mono ?_; rintro e w0 ⟨rfl, hx0⟩; have HX0 := Lib.hid hx0; clear hx0)
  have hx := HX0.out
  have HV2 := Lib.hid (HV2.out.ext hx)
  have HX := Lib.hid (HX.out.trans hx)
  clear hx
  go_upto_region 3 with (fail)
  go_cut [5, 6] (fun sa sb wx => ∃ g cs, sa = .pointer (some ⟨g, 0, none⟩) ∧ sb = .pointer (some ⟨g + 1, 0, none⟩) ∧ VarT wx g cs M ∧ wx.heap[g + 1]? = some (.cells #[.int .i64 mc, .int .i64 mi] 28 (0, 0)) ∧ Ext w0 wx)
  case first =>
    have HR := Lib.hid (mirror_all cs2 s w0 HV2.out.st)
    go_wp2_with (refine wpList_load_row rfl 54 _ rfl g2 rfl 54 cs2 (0, 0) _ HV2.out.g Tryd.underlying54 rfl (by rw [HC2.out]; exact sizeQ) ?_)
    refine HR.out.mono ?_
    rw [HMG.out]
    rintro e w1 ⟨cs', rfl, hst, hx1⟩
    have HA := Lib.hid (asgT_mk w1 hst.st (mc) (mi))
    have HS2 := Lib.hid hst.st.size
    have HO := Lib.hid (tsq_one hst.st)
    have HX1 := Lib.hid hx1
    have HZ := Lib.hid (heap_alloc2_old w1 (.cells zeroTs 54) (.cells #[.int .i64 0, .int .i64 0] 28))
    have HF := Lib.hid ((setRow_other _ w1.heap.size (w1.heap.size + 1) cs' (by omega)).trans (heap_alloc2_new w1 (.cells zeroTs 54) (.cells #[.int .i64 0, .int .i64 0] 28)))
    clear hst hx1
    simp only [fAgg]
    go_wp2_with (first | refine wpList_allocQ rfl rfl ?_ | refine wpList_store_row rfl 54 _ _ rfl w1.heap.size cs' rfl rfl 54 zeroTs HZ.out (by rw [HS2.out]; exact sizeQ) (by rw [HS2.out]; rfl) HO.out ?_ | refine wpList_store_row rfl 28 _ _ rfl (w1.heap.size + 1) #[.int .i64 mc, .int .i64 mi] rfl rfl 28 _ HF.out sizeF rfl (by kernel_rfl) ?_)
    go_meet
    exact ⟨_, cs', rfl, rfl, HA.out.v, HA.out.f, HX1.out.trans HA.out.x⟩
  obtain ⟨g5, cs5, rfl, rfl, hv, hf, hx⟩ := hcut
  obtain ⟨v2, rfl⟩ : ∃ v2 : World, v2 = wc := ⟨_, rfl⟩
  have HV2 := Lib.hid (HV2.out.ext hx)
  have HX := Lib.hid (HX.out.trans hx)
  have HV5 := Lib.hid hv
  have HF6 := Lib.hid hf
  have HC5 := Lib.hid hv.st.size
  clear hv hf hx
  go_upto_region 4 with (fail)
  go_cut [7, 8, 9] (fun sa sn sb wx => ∃ g cs, sa = .pointer (some ⟨g, 0, none⟩) ∧ sn = .int .i64 tn ∧ sb = .pointer (some ⟨g + 1, 0, none⟩) ∧ VarT wx g cs T ∧ wx.heap[g + 1]? = some (.cells #[.int .i64 tc, .int .i64 ti] 28 (0, 0)) ∧ Ext v2 wx)
  case first =>
    have HR := Lib.hid (runT_all cs2 s n v2 HV2.out.st)
    go_wp2_with (refine wpList_load_row rfl 54 _ rfl g2 rfl 54 cs2 (0, 0) _ HV2.out.g Tryd.underlying54 rfl (by rw [HC2.out]; exact sizeQ) ?_)
    refine HR.out.mono ?_
    rw [HTG.out]
    rintro e w1 ⟨cs', rfl, hst, hx1⟩
    have HA := Lib.hid (asgT_mk w1 hst.st (tc) (ti))
    have HS2 := Lib.hid hst.st.size
    have HO := Lib.hid (tsq_one hst.st)
    have HX1 := Lib.hid hx1
    have HZ := Lib.hid (heap_alloc2_old w1 (.cells zeroTs 54) (.cells #[.int .i64 0, .int .i64 0] 28))
    have HF := Lib.hid ((setRow_other _ w1.heap.size (w1.heap.size + 1) cs' (by omega)).trans (heap_alloc2_new w1 (.cells zeroTs 54) (.cells #[.int .i64 0, .int .i64 0] 28)))
    clear hst hx1
    simp only [fAgg]
    go_wp2_with (first | refine wpList_allocQ rfl rfl ?_ | refine wpList_store_row rfl 54 _ _ rfl w1.heap.size cs' rfl rfl 54 zeroTs HZ.out (by rw [HS2.out]; exact sizeQ) (by rw [HS2.out]; rfl) HO.out ?_ | refine wpList_store_row rfl 28 _ _ rfl (w1.heap.size + 1) #[.int .i64 tc, .int .i64 ti] rfl rfl 28 _ HF.out sizeF rfl (by kernel_rfl) ?_)
    go_meet
    exact ⟨_, cs', rfl, rfl, rfl, HA.out.v, HA.out.f, HX1.out.trans HA.out.x⟩
  obtain ⟨g7, cs7, rfl, rfl, rfl, hv, hf, hx⟩ := hcut
  obtain ⟨v3, rfl⟩ : ∃ v3 : World, v3 = wc := ⟨_, rfl⟩
  have HV2 := Lib.hid (HV2.out.ext hx)
  have HV5 := Lib.hid (HV5.out.ext hx)
  have HF6 := Lib.hid (ext_heap hx HF6.out)
  have HX := Lib.hid (HX.out.trans hx)
  have HV7 := Lib.hid hv
  have HF9 := Lib.hid hf
  have HC7 := Lib.hid hv.st.size
  clear hv hf hx
  have hm0 : mc = 0 ↔ faultT s = (0, 0) := by
    have := HMG.out; unfold mirrorG at this
    by_cases q : faultT s = (0, 0)
    · rw [if_pos q] at this; cases this; exact ⟨fun _ => q, fun _ => rfl⟩
    · rw [if_neg q] at this; have h3 : (faultT s).1 = mc := by have := congrArg (fun x => x.2.1) this; exact this
      exact ⟨fun e => absurd (h3.trans e) (faultT_code q), fun e => absurd e q⟩
  have HM0 := Lib.hid hm0
  clear hm0
  have p0 : v3.cell? ⟨g5 + 1, 0, none⟩ = some (.int .i64 mc) := blk_cell HF6.out 0
  have p1 : v3.cell? ⟨g7 + 1, 0, none⟩ = some (.int .i64 tc) := blk_cell HF9.out 0
  obtain ⟨A5, c5, e5, -, -, -, -⟩ := HV5.out.st.cells
  have p2 : v3.cell? ⟨g5, 1, none⟩ = some (.slice A5 M.cells.length c5) := (blk_cell HV5.out.g 1).trans e5
  by_cases q1 : mc = 0
  rotate_left
  · have m1 : (mc != 0) = true := by simpa using q1
    have hM : M = ts0 := by have := HMG.out; unfold mirrorG at this; rw [if_neg (fun q => q1 (HM0.out.2 q))] at this; exact (congrArg Prod.fst this).symm
    subst hM
    clear q1 e5
    have p2 : v3.cell? ⟨g5, 1, none⟩ = some (.slice A5 0 c5) := p2
    go_wp2_with fail
    go_ret
    exact ⟨by first | rfl | simp, HX.out⟩
  have hf0 := HM0.out.1 q1
  have HF0 := Lib.hid hf0
  have hM : M = Tape.mirror s ∧ mi = 0 := by have := HMG.out; unfold mirrorG at this; rw [if_pos hf0] at this; cases this; exact ⟨rfl, rfl⟩
  obtain ⟨hM, hmi⟩ := hM
  subst q1
  subst hmi
  subst hM
  by_cases q2 : 0 ≤ n ∧ n ≤ 60000
  rotate_left
  · have hT := HTG.out
    unfold runGT at hT; rw [if_pos hf0, if_neg q2] at hT
    have h1 : tn = 0 := by cases hT; rfl
    have h2 : tc = 4 := by cases hT; rfl
    subst h1; subst h2
    have hlen : ((Tape.mirror s).cells.length : Int) ≠ 0 := by have := (okt_of hf0).1.len; show ((s.cells.reverse.length : Nat) : Int) ≠ 0; rw [List.length_reverse]; omega
    obtain ⟨ml, hml⟩ : ∃ ml, ml = (Tape.mirror s).cells.length := ⟨_, rfl⟩
    rw [← hml] at hlen p2
    have m2 : ((ml : Int) == 0) = false := by simpa using hlen
    clear q2 hT hlen hml e5 hf0
    go_wp2_with fail
    go_ret
    exact ⟨by first | rfl | simp, HX.out⟩
  obtain ⟨N, rfl⟩ : ∃ N : Nat, n = N := ⟨n.toNat, by omega⟩
  have hT := HTG.out
  unfold runGT at hT; rw [if_pos hf0, if_pos q2, Int.toNat_natCast] at hT
  have h1 : tn = ((Tape.runF N s).2 : Int) := by cases hT; rfl
  have h2 : tc = 0 := by cases hT; rfl
  have h3 : ti = 0 := by cases hT; rfl
  have h4 : T = (Tape.runF N s).1 := by cases hT; rfl
  subst h1; subst h2; subst h3; subst h4
  have HR7 : Hid (runGT (Tape.mirror s) (N : Int) = (Tape.mirror (Tape.runF N s).1, ((Tape.runF N s).2 : Int), (0, 0))) := Lib.hid (by
    unfold runGT; rw [if_pos (faultT_mirror hf0), if_pos q2, Int.toNat_natCast, Tape.mirror_run N (okt_of hf0).1])
  have HR8 : Hid (mirrorG (Tape.runF N s).1 = (Tape.mirror (Tape.runF N s).1, (0, 0))) := Lib.hid (by unfold mirrorG; rw [if_pos (faultT_run N hf0)])
  have HR9 : Hid (mirrorG (Tape.mirror s) = (s, (0, 0))) := Lib.hid (by unfold mirrorG; rw [if_pos (faultT_mirror hf0), Tape.mirror_mirror])
  clear hT hf0 q2 e5 p2
  go_upto_region 7 with (fail)
  go_cut [10, 11, 12] (fun sa sn sb wx => ∃ g cs, sa = .pointer (some ⟨g, 0, none⟩) ∧ sn = .int .i64 ((Tape.runF N s).2 : Int) ∧ sb = .pointer (some ⟨g + 1, 0, none⟩) ∧ VarT wx g cs (Tape.mirror (Tape.runF N s).1) ∧ wx.heap[g + 1]? = some (.cells #[.int .i64 0, .int .i64 0] 28 (0, 0)) ∧ Ext v3 wx)
  case first =>
    have HR := Lib.hid (runT_all cs5 (Tape.mirror s) (N : Int) v3 HV5.out.st)
    go_wp2_with (refine wpList_load_row rfl 54 _ rfl g5 rfl 54 cs5 (0, 0) _ HV5.out.g Tryd.underlying54 rfl (by rw [HC5.out]; exact sizeQ) ?_)
    refine HR.out.mono ?_
    rw [HR7.out]
    rintro e w1 ⟨cs', rfl, hst, hx1⟩
    have HA := Lib.hid (asgT_mk w1 hst.st (0) (0))
    have HS2 := Lib.hid hst.st.size
    have HO := Lib.hid (tsq_one hst.st)
    have HX1 := Lib.hid hx1
    have HZ := Lib.hid (heap_alloc2_old w1 (.cells zeroTs 54) (.cells #[.int .i64 0, .int .i64 0] 28))
    have HF := Lib.hid ((setRow_other _ w1.heap.size (w1.heap.size + 1) cs' (by omega)).trans (heap_alloc2_new w1 (.cells zeroTs 54) (.cells #[.int .i64 0, .int .i64 0] 28)))
    clear hst hx1
    simp only [fAgg]
    go_wp2_with (first | refine wpList_allocQ rfl rfl ?_ | refine wpList_store_row rfl 54 _ _ rfl w1.heap.size cs' rfl rfl 54 zeroTs HZ.out (by rw [HS2.out]; exact sizeQ) (by rw [HS2.out]; rfl) HO.out ?_ | refine wpList_store_row rfl 28 _ _ rfl (w1.heap.size + 1) #[.int .i64 0, .int .i64 0] rfl rfl 28 _ HF.out sizeF rfl (by kernel_rfl) ?_)
    go_meet
    exact ⟨_, cs', rfl, rfl, rfl, HA.out.v, HA.out.f, HX1.out.trans HA.out.x⟩
  obtain ⟨g10, cs10, rfl, rfl, rfl, hv, hf, hx⟩ := hcut
  obtain ⟨v4, rfl⟩ : ∃ v4 : World, v4 = wc := ⟨_, rfl⟩
  have HV2 := Lib.hid (HV2.out.ext hx)
  have HV5 := Lib.hid (HV5.out.ext hx)
  have HV7 := Lib.hid (HV7.out.ext hx)
  have HF6 := Lib.hid (ext_heap hx HF6.out)
  have HF9 := Lib.hid (ext_heap hx HF9.out)
  have HX := Lib.hid (HX.out.trans hx)
  have HV10 := Lib.hid hv
  have HF12 := Lib.hid hf
  have HC10 := Lib.hid hv.st.size
  clear hv hf hx
  go_upto_region 8 with (fail)
  go_cut [13, 14] (fun sa sb wx => ∃ g cs, sa = .pointer (some ⟨g, 0, none⟩) ∧ sb = .pointer (some ⟨g + 1, 0, none⟩) ∧ VarT wx g cs (Tape.mirror (Tape.runF N s).1) ∧ wx.heap[g + 1]? = some (.cells #[.int .i64 0, .int .i64 0] 28 (0, 0)) ∧ Ext v4 wx)
  case first =>
    have HR := Lib.hid (mirror_all cs7 (Tape.runF N s).1 v4 HV7.out.st)
    go_wp2_with (refine wpList_load_row rfl 54 _ rfl g7 rfl 54 cs7 (0, 0) _ HV7.out.g Tryd.underlying54 rfl (by rw [HC7.out]; exact sizeQ) ?_)
    refine HR.out.mono ?_
    rw [HR8.out]
    rintro e w1 ⟨cs', rfl, hst, hx1⟩
    have HA := Lib.hid (asgT_mk w1 hst.st (0) (0))
    have HS2 := Lib.hid hst.st.size
    have HO := Lib.hid (tsq_one hst.st)
    have HX1 := Lib.hid hx1
    have HZ := Lib.hid (heap_alloc2_old w1 (.cells zeroTs 54) (.cells #[.int .i64 0, .int .i64 0] 28))
    have HF := Lib.hid ((setRow_other _ w1.heap.size (w1.heap.size + 1) cs' (by omega)).trans (heap_alloc2_new w1 (.cells zeroTs 54) (.cells #[.int .i64 0, .int .i64 0] 28)))
    clear hst hx1
    simp only [fAgg]
    go_wp2_with (first | refine wpList_allocQ rfl rfl ?_ | refine wpList_store_row rfl 54 _ _ rfl w1.heap.size cs' rfl rfl 54 zeroTs HZ.out (by rw [HS2.out]; exact sizeQ) (by rw [HS2.out]; rfl) HO.out ?_ | refine wpList_store_row rfl 28 _ _ rfl (w1.heap.size + 1) #[.int .i64 0, .int .i64 0] rfl rfl 28 _ HF.out sizeF rfl (by kernel_rfl) ?_)
    go_meet
    exact ⟨_, cs', rfl, rfl, HA.out.v, HA.out.f, HX1.out.trans HA.out.x⟩
  obtain ⟨g13, cs13, rfl, rfl, hv, hf, hx⟩ := hcut
  obtain ⟨v5, rfl⟩ : ∃ v5 : World, v5 = wc := ⟨_, rfl⟩
  have HV2 := Lib.hid (HV2.out.ext hx)
  have HV5 := Lib.hid (HV5.out.ext hx)
  have HV7 := Lib.hid (HV7.out.ext hx)
  have HV10 := Lib.hid (HV10.out.ext hx)
  have HF6 := Lib.hid (ext_heap hx HF6.out)
  have HF9 := Lib.hid (ext_heap hx HF9.out)
  have HF12 := Lib.hid (ext_heap hx HF12.out)
  have HX := Lib.hid (HX.out.trans hx)
  have HV13 := Lib.hid hv
  have HF14 := Lib.hid hf
  have HC13 := Lib.hid hv.st.size
  clear hv hf hx
  go_upto_region 9 with (fail)
  go_cut [15, 16] (fun sa sb wx => ∃ g cs, sa = .pointer (some ⟨g, 0, none⟩) ∧ sb = .pointer (some ⟨g + 1, 0, none⟩) ∧ VarT wx g cs s ∧ wx.heap[g + 1]? = some (.cells #[.int .i64 0, .int .i64 0] 28 (0, 0)) ∧ Ext v5 wx)
  case first =>
    have HR := Lib.hid (mirror_all cs5 (Tape.mirror s) v5 HV5.out.st)
    go_wp2_with (refine wpList_load_row rfl 54 _ rfl g5 rfl 54 cs5 (0, 0) _ HV5.out.g Tryd.underlying54 rfl (by rw [HC5.out]; exact sizeQ) ?_)
    refine HR.out.mono ?_
    rw [HR9.out]
    rintro e w1 ⟨cs', rfl, hst, hx1⟩
    have HA := Lib.hid (asgT_mk w1 hst.st (0) (0))
    have HS2 := Lib.hid hst.st.size
    have HO := Lib.hid (tsq_one hst.st)
    have HX1 := Lib.hid hx1
    have HZ := Lib.hid (heap_alloc2_old w1 (.cells zeroTs 54) (.cells #[.int .i64 0, .int .i64 0] 28))
    have HF := Lib.hid ((setRow_other _ w1.heap.size (w1.heap.size + 1) cs' (by omega)).trans (heap_alloc2_new w1 (.cells zeroTs 54) (.cells #[.int .i64 0, .int .i64 0] 28)))
    clear hst hx1
    simp only [fAgg]
    go_wp2_with (first | refine wpList_allocQ rfl rfl ?_ | refine wpList_store_row rfl 54 _ _ rfl w1.heap.size cs' rfl rfl 54 zeroTs HZ.out (by rw [HS2.out]; exact sizeQ) (by rw [HS2.out]; rfl) HO.out ?_ | refine wpList_store_row rfl 28 _ _ rfl (w1.heap.size + 1) #[.int .i64 0, .int .i64 0] rfl rfl 28 _ HF.out sizeF rfl (by kernel_rfl) ?_)
    go_meet
    exact ⟨_, cs', rfl, rfl, HA.out.v, HA.out.f, HX1.out.trans HA.out.x⟩
  obtain ⟨g15, cs15, rfl, rfl, hv, hf, hx⟩ := hcut
  obtain ⟨v6, rfl⟩ : ∃ v6 : World, v6 = wc := ⟨_, rfl⟩
  have HV2 := Lib.hid (HV2.out.ext hx)
  have HV5 := Lib.hid (HV5.out.ext hx)
  have HV7 := Lib.hid (HV7.out.ext hx)
  have HV10 := Lib.hid (HV10.out.ext hx)
  have HV13 := Lib.hid (HV13.out.ext hx)
  have HF6 := Lib.hid (ext_heap hx HF6.out)
  have HF9 := Lib.hid (ext_heap hx HF9.out)
  have HF12 := Lib.hid (ext_heap hx HF12.out)
  have HF14 := Lib.hid (ext_heap hx HF14.out)
  have HX := Lib.hid (HX.out.trans hx)
  have HV15 := Lib.hid hv
  have HF16 := Lib.hid hf
  have HC15 := Lib.hid hv.st.size
  clear hv hf hx
  have r0 : v6.cell? ⟨g10 + 1, 0, none⟩ = some (.int .i64 0) := blk_cell HF12.out 0
  have r1 : v6.cell? ⟨g13 + 1, 0, none⟩ = some (.int .i64 0) := blk_cell HF14.out 0
  have r2 : v6.cell? ⟨g15 + 1, 0, none⟩ = some (.int .i64 0) := blk_cell HF16.out 0
  have HS1 := Lib.hid (fun (W : World) (x : Ext v6 W) => SameTape_c cs10 cs13 _ _ W (HV10.out.st.ext x) (HV13.out.st.ext x))
  have HS2 := Lib.hid (fun (W : World) (x : Ext v6 W) => SameTape_c cs15 cs2 _ _ W (HV15.out.st.ext x) (HV2.out.st.ext x))
  clear p0 p1
  go_wp2_with (first | refine wpList_load_rowg (by rfl) 54 _ rfl g10 (by rfl) 54 cs10 (0, 0) _ HV10.out.g Tryd.underlying54 rfl (by rw [HC10.out]; exact sizeQ) ?_ | refine wpList_load_rowg (by rfl) 54 _ rfl g13 (by rfl) 54 cs13 (0, 0) _ HV13.out.g Tryd.underlying54 rfl (by rw [HC13.out]; exact sizeQ) ?_)
  refine (HS1.out _ (Ext.refl _)).mono ?_
  rw [sameTB_refl]
  rintro e w8 ⟨rfl, hx⟩
  have HV2 := Lib.hid (HV2.out.ext hx)
  have HV5 := Lib.hid (HV5.out.ext hx)
  have HV7 := Lib.hid (HV7.out.ext hx)
  have HV10 := Lib.hid (HV10.out.ext hx)
  have HV13 := Lib.hid (HV13.out.ext hx)
  have HV15 := Lib.hid (HV15.out.ext hx)
  have HF6 := Lib.hid (ext_heap hx HF6.out)
  have HF9 := Lib.hid (ext_heap hx HF9.out)
  have HF12 := Lib.hid (ext_heap hx HF12.out)
  have HF14 := Lib.hid (ext_heap hx HF14.out)
  have HF16 := Lib.hid (ext_heap hx HF16.out)
  have HX := Lib.hid (HX.out.trans hx)
  clear hx r0 r1 r2
  have HXW := Lib.hid HX.out
  go_wp2_with (first | refine wpList_load_rowg (by rfl) 54 _ rfl g15 (by rfl) 54 cs15 (0, 0) _ HV15.out.g Tryd.underlying54 rfl (by rw [HC15.out]; exact sizeQ) ?_ | refine wpList_load_rowg (by rfl) 54 _ rfl g2 (by rfl) 54 cs2 (0, 0) _ HV2.out.g Tryd.underlying54 rfl (by rw [HC2.out]; exact sizeQ) ?_)
  refine (SameTape_c cs15 cs2 _ _ _ HV15.out.st HV2.out.st).mono ?_
  rw [sameTB_refl]
  rintro e w9 ⟨rfl, hx9⟩
  have HX9 := Lib.hid (HX.out.trans hx9)
  clear hx9
  go_wp2_with fail
  go_ret
  exact ⟨rfl, HX9.out⟩
end Go.Proofs.YtbaahbpianingaaDoor
