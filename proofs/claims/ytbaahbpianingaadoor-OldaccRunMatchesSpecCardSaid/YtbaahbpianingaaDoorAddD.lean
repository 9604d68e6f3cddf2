import Derived.Test.YtbaahbpianingaaDoorDecked
import Derived.Test.YtbaahbpianingaaDoorSameD
import Derived.Test.YtbaahbpianingaaDoorDFault
namespace Go.Proofs.YtbaahbpianingaaDoor
open Go Go.Proofs Go.RowKit
open Acc (Dk red five)
set_option maxHeartbeats 6400000
set_option maxRecDepth 100000
theorem tabs_two {w : World} (h : Tabs w) : 2 ≤ w.heap.size := by
  have h1 := h.here
  unfold Lib.TabIs World.var? at h1
  rw [show Tryd.prog.globalNamed "internal/strconv.uint64pow10" = some 1 by kernel_rfl] at h1
  simp only [Option.bind_some] at h1
  rcases Nat.lt_or_ge 1 w.heap.size with h' | h'
  · exact h'
  · rw [Array.getElem?_eq_none h'] at h1; simp at h1
theorem fault_code {s : Dk} (h : faultD s ≠ (0, 0)) : (faultD s).1 ≠ 0 := by
  revert h
  unfold faultD
  split
  · intro _ hc; exact absurd (show (4 : Int) = 0 from hc) (by decide)
  split
  · intro _; decide
  split
  · intro _; decide
  · intro h; exact absurd rfl h
theorem fault_pair (s : Dk) : ∃ c i : Int, faultD s = (c, i) := ⟨_, _, rfl⟩
theorem runG_bad {s : Dk} {n c i : Int} (h : faultD s = (c, i)) (h0 : c ≠ 0) : runG s n = (dk0, 0, (c, i)) := by
  unfold runG
  rw [h, if_neg (by intro hc; injection hc; contradiction)]
theorem runG_good {s : Dk} {n : Int} (h : faultD s = (0, 0)) (hn : 0 ≤ n ∧ n ≤ 60000) : runG s n = ((Acc.runF n.toNat s).1, ((Acc.runF n.toNat s).2 : Int), (0, 0)) := by
  unfold runG; rw [if_pos h, if_pos hn]
theorem runG_range {s : Dk} {n : Int} (h : faultD s = (0, 0)) (hn : ¬ (0 ≤ n ∧ n ≤ 60000)) : runG s n = (dk0, 0, (4, -2)) := by
  unfold runG; rw [if_pos h, if_neg hn]
theorem runF_le : ∀ (n : Nat) (s : Dk), (Acc.runF n s).2 ≤ n
  | 0, _ => Nat.le_refl _
  | n + 1, s => by
    rw [Acc.runF]
    split
    · exact Nat.succ_le_succ (runF_le n _)
    · exact Nat.zero_le _
theorem okst_run : ∀ (n : Nat) (s : Dk), OkSt s → OkSt (Acc.runF n s).1
  | 0, _, h => h
  | n + 1, s, h => by
    rw [Acc.runF]
    split
    · exact okst_run n _ (okst_step h)
    · exact h
theorem fault_ok {s : Dk} (h : OkSt s) : faultD s = (0, 0) := by
  have k := h.ok
  have h1 := k.at_
  have h2 := k.stop
  have h3 := k.input
  have h4 := k.output
  unfold faultD
  rw [if_neg (by rw [badI_all k.words]; decide), if_neg, if_neg (by omega)]
  have : ¬ 0 ≤ badI [s.a, s.q, s.x] := by
    rw [five_bad]; simp [k.a, k.q, k.x]
  omega
theorem var_box (w : World) (cs : Array Value) (s : Dk) (h : DkIs w cs s) : Var (w.alloc (.cells cs 25)) w.heap.size cs s := ⟨heap_alloc_new w _, h.ext ((Ext.refl w).alloc _)⟩
theorem adds_c (cs : Array Value) (s : Dk) (m n : Int) (w : World) (h : DkIs w cs s) (ht : Tabs w) : Calls Tryd.prog 4 #[.agg cs, .int .i64 m, .int .i64 n] w (BRet w true) := by
  have HT := Lib.hid ht
  have H2 := Lib.hid (tabs_two ht)
  have HH := Lib.hid h
  have HS := Lib.hid h.size
  clear ht h
  go_enter Tryd.func4, Tryd.ntmps4
  go_upto_region 0 with (fail)
  go_cut [3] (fun s3 wx => s3 = .pointer (some ⟨w.heap.size, 0, none⟩) ∧ Var wx w.heap.size cs s ∧ Ext w wx)
  case first =>
    go_wp2_with fail
    go_meet
    exact ⟨rfl, var_box w cs s HH.out, (Ext.refl w).alloc _⟩
  case rest =>
    obtain ⟨rfl, hv, hx⟩ := hcut
    have HV := Lib.hid hv
    have HX := Lib.hid hx
    clear hv hx
    go_wp2_with (go_at_call 19; refine (decked_c _ (HT.out.below HX.out H2.out) (Nat.le_trans H2.out HX.out.size)).mono ?_; rintro e w1 ⟨rfl, hx1⟩; have HV1 := Lib.hid (HV.out.ext hx1); have HX1 := Lib.hid (HX.out.trans hx1); clear hx1)
    by_cases hm : 0 ≤ m ∧ m ≤ 30000
    · have hm1 : inB m 0 30000 = true := by unfold inB; simp; exact hm
      by_cases hn : 0 ≤ n ∧ n ≤ 30000
      · have hn1 : inB n 0 30000 = true := by unfold inB; simp; exact hn
        have HT1 := Lib.hid (HT.out.below HX1.out H2.out)
        have HT2 := Lib.hid (Nat.le_trans H2.out HX1.out.size)
        obtain ⟨c, i, hci⟩ := fault_pair s
        by_cases hc0 : c = 0
        · have hgood : faultD s = (0, 0) := by
            by_cases hq : faultD s = (0, 0)
            · exact hq
            · exact absurd (by rw [hci]; exact hc0) (fault_code hq)
          obtain ⟨M, rfl⟩ : ∃ M : Nat, m = M := ⟨m.toNat, by omega⟩
          obtain ⟨N, rfl⟩ : ∃ N : Nat, n = N := ⟨n.toNat, by omega⟩
          have HOK := Lib.hid (ok_of HH.out hgood)
          have HG := Lib.hid (runG_good (s := s) (n := (M : Int)) hgood (by omega))
          have HOK2 := Lib.hid (okst_run M s HOK.out)
          have HG2 := Lib.hid (runG_good (s := (Acc.runF M s).1) (n := (N : Int)) (fault_ok HOK2.out) (by omega))
          have HG3 := Lib.hid (runG_good (s := s) (n := (M : Int) + (N : Int)) hgood (by omega))
          have HAD := Lib.hid (Acc.run_add M N s)
          have hi1 := runF_le M s
          have hk1 := runF_le N (Acc.runF M s).1
          clear hci hc0 hgood
          go_upto_region 5 with (go_at_call 22; refine (In_c _ _ _ _).mono ?_; rintro e w' ⟨rfl, rfl⟩)
          go_cut [7, 8, 9] (fun s7 s8 s9 wx => ∃ g' cs', s7 = .pointer (some ⟨g', 0, none⟩) ∧ s8 = .int .i64 ((Acc.runF M s).2 : Int) ∧ s9 = .pointer (some ⟨g' + 1, 0, none⟩) ∧ Var wx g' cs' (Acc.runF M s).1 ∧ wx.heap[g' + 1]? = some (.cells #[.int .i64 0, .int .i64 0] 28 (0, 0)) ∧ Ext w1 wx)
          case first =>
            have HR := Lib.hid (run_all cs s M w1 HV1.out.st HT1.out HT2.out)
            go_wp2_with (refine wpList_load_row rfl 25 _ rfl w.heap.size rfl 25 cs (0, 0) _ HV1.out.g Tryd.underlying25 rfl (by rw [HS.out]; exact sizeS) ?_)
            refine HR.out.mono ?_
            rw [HG.out, Int.toNat_natCast]
            rintro e w1 ⟨cs', rfl, hst, hx1⟩
            have HA := Lib.hid (asg_mk w1 hst.st 0 0)
            have HS2 := Lib.hid hst.st.size
            have HO := Lib.hid (dk_one hst.st)
            have HX1 := Lib.hid hx1
            have HZ := Lib.hid (heap_alloc2_old w1 (.cells zeroDk 25) (.cells #[.int .i64 0, .int .i64 0] 28))
            have HF := Lib.hid ((setRow_other _ w1.heap.size (w1.heap.size + 1) cs' (by omega)).trans (heap_alloc2_new w1 (.cells zeroDk 25) (.cells #[.int .i64 0, .int .i64 0] 28)))
            clear hst hx1
            simp only [fAgg]
            go_wp2_with (first | refine wpList_allocS rfl rfl ?_ | refine wpList_store_row rfl 25 _ _ rfl w1.heap.size cs' rfl rfl 25 zeroDk HZ.out (by rw [HS2.out]; exact sizeS) (by rw [HS2.out]; rfl) HO.out ?_ | refine wpList_store_row rfl 28 _ _ rfl (w1.heap.size + 1) #[.int .i64 0, .int .i64 0] rfl rfl 28 _ HF.out sizeF rfl (by kernel_rfl) ?_)
            go_meet
            exact ⟨_, cs', rfl, rfl, rfl, HA.out.v, HA.out.f, HX1.out.trans HA.out.x⟩
          case rest =>
            obtain ⟨ga, ca, rfl, rfl, rfl, hva, hfa, hxa⟩ := hcut
            obtain ⟨wa, rfl⟩ : ∃ wa : World, wa = wc := ⟨_, rfl⟩
            have HVA := Lib.hid hva
            have HSA := Lib.hid hva.st.size
            have HFA := Lib.hid hfa
            have fa : wa.cell? ⟨ga + 1, 0, none⟩ = some (.int .i64 0) := blk_cell hfa 0
            have HXA := Lib.hid (HX1.out.trans hxa)
            have HVS := Lib.hid (HV1.out.ext hxa)
            have HTA := Lib.hid (HT.out.below HXA.out H2.out)
            have HTA2 := Lib.hid (Nat.le_trans H2.out HXA.out.size)
            clear hva hfa hxa
            go_upto_region 8 with (fail)
            go_cut [10, 11, 12] (fun s10 s11 s12 wx => ∃ g' cs', s10 = .pointer (some ⟨g', 0, none⟩) ∧ s11 = .int .i64 ((Acc.runF N (Acc.runF M s).1).2 : Int) ∧ s12 = .pointer (some ⟨g' + 1, 0, none⟩) ∧ Var wx g' cs' (Acc.runF N (Acc.runF M s).1).1 ∧ wx.heap[g' + 1]? = some (.cells #[.int .i64 0, .int .i64 0] 28 (0, 0)) ∧ Ext wa wx)
            case first =>
              have HR := Lib.hid (run_all ca (Acc.runF M s).1 N wa HVA.out.st HTA.out HTA2.out)
              go_wp2_with (refine wpList_load_row rfl 25 _ rfl ga rfl 25 ca (0, 0) _ HVA.out.g Tryd.underlying25 rfl (by rw [HSA.out]; exact sizeS) ?_)
              refine HR.out.mono ?_
              rw [HG2.out, Int.toNat_natCast]
              rintro e w1 ⟨cs', rfl, hst, hx1⟩
              have HA := Lib.hid (asg_mk w1 hst.st 0 0)
              have HS2 := Lib.hid hst.st.size
              have HO := Lib.hid (dk_one hst.st)
              have HX1 := Lib.hid hx1
              have HZ := Lib.hid (heap_alloc2_old w1 (.cells zeroDk 25) (.cells #[.int .i64 0, .int .i64 0] 28))
              have HF := Lib.hid ((setRow_other _ w1.heap.size (w1.heap.size + 1) cs' (by omega)).trans (heap_alloc2_new w1 (.cells zeroDk 25) (.cells #[.int .i64 0, .int .i64 0] 28)))
              clear hst hx1
              simp only [fAgg]
              go_wp2_with (first | refine wpList_allocS rfl rfl ?_ | refine wpList_store_row rfl 25 _ _ rfl w1.heap.size cs' rfl rfl 25 zeroDk HZ.out (by rw [HS2.out]; exact sizeS) (by rw [HS2.out]; rfl) HO.out ?_ | refine wpList_store_row rfl 28 _ _ rfl (w1.heap.size + 1) #[.int .i64 0, .int .i64 0] rfl rfl 28 _ HF.out sizeF rfl (by kernel_rfl) ?_)
              go_meet
              exact ⟨_, cs', rfl, rfl, rfl, HA.out.v, HA.out.f, HX1.out.trans HA.out.x⟩
            case rest =>
              obtain ⟨gb, cb, rfl, rfl, rfl, hvb, hfb, hxb⟩ := hcut
              obtain ⟨wb, rfl⟩ : ∃ wb : World, wb = wc := ⟨_, rfl⟩
              have HVB := Lib.hid hvb
              have HSB := Lib.hid hvb.st.size
              have HFB := Lib.hid hfb
              have HXB := Lib.hid (HXA.out.trans hxb)
              have HVS2 := Lib.hid (HVS.out.ext hxb)
              have HVA2 := Lib.hid (HVA.out.ext hxb)
              have HTB := Lib.hid (HT.out.below HXB.out H2.out)
              have HTB2 := Lib.hid (Nat.le_trans H2.out HXB.out.size)
              clear hvb hfb hxb
              have e1 : ((M : Int) + (N : Int)).toNat = M + N := by omega
              have HE1 := Lib.hid e1
              clear e1
              go_upto_region 9 with (fail)
              go_cut [13, 14, 15] (fun s13 s14 s15 wx => ∃ g' cs', s13 = .pointer (some ⟨g', 0, none⟩) ∧ s14 = .int .i64 (((Acc.runF M s).2 : Int) + ((Acc.runF N (Acc.runF M s).1).2 : Int)) ∧ s15 = .pointer (some ⟨g' + 1, 0, none⟩) ∧ Var wx g' cs' (Acc.runF N (Acc.runF M s).1).1 ∧ wx.heap[g' + 1]? = some (.cells #[.int .i64 0, .int .i64 0] 28 (0, 0)) ∧ Ext wb wx)
              case first =>
                have HR := Lib.hid (run_all cs s ((M : Int) + (N : Int)) wb HVS2.out.st HTB.out HTB2.out)
                go_wp2_with (refine wpList_load_row rfl 25 _ rfl w.heap.size rfl 25 cs (0, 0) _ HVS2.out.g Tryd.underlying25 rfl (by rw [HS.out]; exact sizeS) ?_)
                refine HR.out.mono ?_
                rw [HG3.out, HE1.out, HAD.out]
                rintro e w1 ⟨cs', rfl, hst, hx1⟩
                have HA := Lib.hid (asg_mk w1 hst.st 0 0)
                have HS2 := Lib.hid hst.st.size
                have HO := Lib.hid (dk_one hst.st)
                have HX1 := Lib.hid hx1
                have HZ := Lib.hid (heap_alloc2_old w1 (.cells zeroDk 25) (.cells #[.int .i64 0, .int .i64 0] 28))
                have HF := Lib.hid ((setRow_other _ w1.heap.size (w1.heap.size + 1) cs' (by omega)).trans (heap_alloc2_new w1 (.cells zeroDk 25) (.cells #[.int .i64 0, .int .i64 0] 28)))
                clear hst hx1
                simp only [fAgg]
                go_wp2_with (first | refine wpList_allocS rfl rfl ?_ | refine wpList_store_row rfl 25 _ _ rfl w1.heap.size cs' rfl rfl 25 zeroDk HZ.out (by rw [HS2.out]; exact sizeS) (by rw [HS2.out]; rfl) HO.out ?_ | refine wpList_store_row rfl 28 _ _ rfl (w1.heap.size + 1) #[.int .i64 0, .int .i64 0] rfl rfl 28 _ HF.out sizeF rfl (by kernel_rfl) ?_)
                go_meet
                exact ⟨_, cs', rfl, rfl, rfl, HA.out.v, HA.out.f, HX1.out.trans HA.out.x⟩
              case rest =>
                obtain ⟨gc, cc, rfl, rfl, rfl, hvc, hfc, hxc⟩ := hcut
                obtain ⟨wd, rfl⟩ : ∃ wd : World, wd = wc := ⟨_, rfl⟩
                have HVC := Lib.hid hvc
                have HSC := Lib.hid hvc.st.size
                have HVB2 := Lib.hid (HVB.out.ext hxc)
                have HVA3 := Lib.hid (HVA2.out.ext hxc)
                have HFB2 := Lib.hid (ext_heap hxc HFB.out)
                have HFC := Lib.hid hfc
                have HXC := Lib.hid (HXB.out.trans hxc)
                have HVL := Lib.hid (Valid_c ca _ wd HVA3.out.st)
                clear hvc hfc hxc fa
                go_wp2_with (refine wpList_load_rowg (by rfl) 25 _ rfl ga (by rfl) 25 ca (0, 0) _ HVA3.out.g Tryd.underlying25 rfl (by rw [HSA.out]; exact sizeS) ?_)
                refine HVL.out.mono ?_
                rw [fault_ok HOK2.out]
                rintro e w8 ⟨rfl, hx8⟩
                simp only [fAgg]
                have hfld := fld0 0 0
                have fb : w8.cell? ⟨gb + 1, 0, none⟩ = some (.int .i64 0) := blk_cell (ext_heap hx8 HFB2.out) 0
                have fc : w8.cell? ⟨gc + 1, 0, none⟩ = some (.int .i64 0) := blk_cell (ext_heap hx8 HFC.out) 0
                have HVB3 := Lib.hid (HVB2.out.ext hx8)
                have HVC3 := Lib.hid (HVC.out.ext hx8)
                have HX8 := Lib.hid (HXC.out.trans hx8)
                clear hx8
                go_wp2_with (first | refine wpList_load_rowg (by rfl) 25 _ rfl gb (by rfl) 25 cb (0, 0) _ HVB3.out.g Tryd.underlying25 rfl (by rw [HSB.out]; exact sizeS) ?_ | refine wpList_load_rowg (by rfl) 25 _ rfl gc (by rfl) 25 cc (0, 0) _ HVC3.out.g Tryd.underlying25 rfl (by rw [HSC.out]; exact sizeS) ?_)
                refine (same_c cb cc _ _ w8 HVB3.out.st HVC3.out.st).mono ?_
                rw [(sameB_iff _ _).2 rfl]
                rintro e w9 ⟨rfl, hx9⟩
                have HX9 := Lib.hid (HX8.out.trans hx9)
                clear hx9
                go_wp2_with fail
                go_ret
                exact ⟨rfl, HX9.out⟩
        · have hgb := runG_bad (n := m) hci hc0
          have HGB := Lib.hid hgb
          clear hgb hci
          go_upto_region 5 with (go_at_call 22; refine (In_c _ _ _ _).mono ?_; rintro e w' ⟨rfl, rfl⟩)
          go_cut [7, 8, 9] (fun s7 s8 s9 wx => ∃ g' cs', s7 = .pointer (some ⟨g', 0, none⟩) ∧ s8 = .int .i64 0 ∧ s9 = .pointer (some ⟨g' + 1, 0, none⟩) ∧ Var wx g' cs' dk0 ∧ wx.heap[g' + 1]? = some (.cells #[.int .i64 c, .int .i64 i] 28 (0, 0)) ∧ Ext w1 wx)
          case first =>
            have HR := Lib.hid (run_all cs s m w1 HV1.out.st HT1.out HT2.out)
            go_wp2_with (refine wpList_load_row rfl 25 _ rfl w.heap.size rfl 25 cs (0, 0) _ HV1.out.g Tryd.underlying25 rfl (by rw [HS.out]; exact sizeS) ?_)
            refine HR.out.mono ?_
            rw [HGB.out]
            rintro e w1 ⟨cs', rfl, hst, hx1⟩
            have HA := Lib.hid (asg_mk w1 hst.st c i)
            have HS2 := Lib.hid hst.st.size
            have HO := Lib.hid (dk_one hst.st)
            have HX1 := Lib.hid hx1
            have HZ := Lib.hid (heap_alloc2_old w1 (.cells zeroDk 25) (.cells #[.int .i64 0, .int .i64 0] 28))
            have HF := Lib.hid ((setRow_other _ w1.heap.size (w1.heap.size + 1) cs' (by omega)).trans (heap_alloc2_new w1 (.cells zeroDk 25) (.cells #[.int .i64 0, .int .i64 0] 28)))
            clear hst hx1
            simp only [fAgg]
            go_wp2_with (first | refine wpList_allocS rfl rfl ?_ | refine wpList_store_row rfl 25 _ _ rfl w1.heap.size cs' rfl rfl 25 zeroDk HZ.out (by rw [HS2.out]; exact sizeS) (by rw [HS2.out]; rfl) HO.out ?_ | refine wpList_store_row rfl 28 _ _ rfl (w1.heap.size + 1) #[.int .i64 c, .int .i64 i] rfl rfl 28 _ HF.out sizeF rfl (by kernel_rfl) ?_)
            go_meet
            exact ⟨_, cs', rfl, rfl, rfl, HA.out.v, HA.out.f, HX1.out.trans HA.out.x⟩
          case rest =>
            obtain ⟨ga, ca, rfl, rfl, rfl, hva, hfa, hxa⟩ := hcut
            obtain ⟨wa, rfl⟩ : ∃ wa : World, wa = wc := ⟨_, rfl⟩
            have fa : wa.cell? ⟨ga + 1, 0, none⟩ = some (.int .i64 c) := blk_cell hfa 0
            have hne : (c != 0) = true := by simpa using hc0
            have HXA := Lib.hid (HX1.out.trans hxa)
            clear hva hfa hxa
            go_wp2_with fail
            go_ret
            exact ⟨rfl, HXA.out⟩
      · have hn1 : inB n 0 30000 = false := by unfold inB; simp; omega
        go_wp2_with (go_at_call 22; refine (In_c _ _ _ _).mono ?_; rintro e w' ⟨rfl, rfl⟩)
        go_ret
        exact ⟨rfl, HX1.out⟩
    · have hm1 : inB m 0 30000 = false := by unfold inB; simp; omega
      go_wp2_with (go_at_call 22; refine (In_c _ _ _ _).mono ?_; rintro e w' ⟨rfl, rfl⟩)
      go_ret
      exact ⟨rfl, HX1.out⟩
end Go.Proofs.YtbaahbpianingaaDoor
