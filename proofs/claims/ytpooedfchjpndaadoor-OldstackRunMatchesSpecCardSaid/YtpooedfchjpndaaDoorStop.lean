import Derived.Test.YtpooedfchjpndaaDoorAdd
namespace Go.Proofs.YtpooedfchjpndaaDoor
open Go Go.Proofs Go.RowKit
set_option maxHeartbeats 3200000
set_option maxRecDepth 100000
/-- The variable's cells, and that the state does not lie in the variable. -/
def Apart (wx : World) (g : Nat) (cs : Array Value) (s : St) : Prop := ∀ F : World, (∀ k, k < g → F.heap[k]? = wx.heap[k]?) → StIs F cs s
theorem apart_mk {B : Nat} {w1 W : World} {cs : Array Value} {s : St} (h : StFr B w1 cs s) (x : Ext w1 W) : Apart W w1.heap.size cs s :=
  fun F hF => h F fun k _ hk => (hF k hk).trans (x.block k hk)
theorem stop_set {F : World} {cs : Array Value} {s : St} {n : Int} (h : StIs F cs s) (hn : I64 n) : StIs F (cs.setIfInBounds 38 (.int .i64 n)) { s with stop := n } := by
  have hs := h.size
  have key : ∀ i, i ≠ 38 → (cs.setIfInBounds 38 (.int .i64 n))[i]? = cs[i]? := fun i hi => Array.getElem?_setIfInBounds_ne (by omega)
  have k4 : ∀ i, i < 32 → (cs.setIfInBounds 38 (.int .i64 n))[4 + i]? = some (.int .u16 (s.mem[i]?.getD 0)) := fun i hi => by rw [key (4 + i) (by omega)]; exact h.mem i hi
  refine ⟨by simpa using hs, ?_, ?_, ?_, ?_, k4, ?_, ?_, Array.getElem?_setIfInBounds_self_of_lt (by omega), ⟨h.wf.image, h.wf.at_, h.wf.data, h.wf.ret, h.wf.mem, h.wf.memlen, h.wf.input, h.wf.output, hn⟩⟩
  · rw [key 0 (by omega)]; exact h.image
  · rw [key 1 (by omega)]; exact h.at_
  · rw [key 2 (by omega)]; exact h.data
  · rw [key 3 (by omega)]; exact h.ret
  · rw [key 36 (by omega)]; exact h.input
  · rw [key 37 (by omega)]; exact h.output
theorem stops_c (cs : Array Value) (s : St) (w : World) (h : StIs w cs s) (ht : Tabs w) : Calls Tryd.prog 5 #[.agg cs] w (BRet w true) := by
  have HT := Lib.hid ht
  have HH := Lib.hid h
  have HS := Lib.hid h.size
  clear ht h
  go_enter Tryd.func5, Tryd.ntmps5
  go_upto_region 0 with (fail)
  go_cut [1] (fun s1 wx => s1 = .pointer (some ⟨w.heap.size, 0, none⟩) ∧ Var wx w.heap.size cs s ∧ Ext w wx)
  case first =>
    go_wp2_with fail
    go_meet
    exact ⟨rfl, var_box w cs s HH.out, (Ext.refl w).alloc _⟩
  case rest =>
    obtain ⟨rfl, hv, hx⟩ := hcut
    have HV := Lib.hid hv
    have HX := Lib.hid hx
    clear hv hx
    go_upto_region 3 with (go_at_call 13; refine (stacked_c _ (HT.out.below HX.out (tabs_lt HT.out))).mono ?_; rintro e w1 ⟨rfl, hx1⟩; have HV1 := Lib.hid (HV.out.ext hx1); have HX1 := Lib.hid (HX.out.trans hx1); clear hx1)
    have HT1 := Lib.hid (HT.out.below HX1.out (tabs_lt HT.out))
    have hlt : w.heap.size < w1.heap.size := (Array.getElem?_eq_some_iff.1 HV1.out.g).1
    obtain ⟨c, i, hci⟩ := fault_pair s
    by_cases hc0 : c = 0
    · have hgood : faultOf s = (0, 0) := by
        by_cases hq : faultOf s = (0, 0)
        · exact hq
        · exact absurd (by rw [hci]; exact hc0) (fault_code hq)
      have HG := Lib.hid (runG_good (s := s) (n := 1) hgood (by omega))
      clear hci hc0 hgood
      go_upto_region 3 with (fail)
      go_cut [3, 4] (fun s3 s4 wx => ∃ g' cs', s3 = .pointer (some ⟨g', 0, none⟩) ∧ s4 = .pointer (some ⟨g' + 1, 0, none⟩) ∧ Var wx g' cs' (runF 1 s).1 ∧ wx.heap[g' + 1]? = some (.cells #[.int .i64 0, .int .i64 0] 30 (0, 0)) ∧ Ext w1 wx ∧ w1.heap.size ≤ g' ∧ Apart wx g' cs' (runF 1 s).1)
      case first =>
        have HR := Lib.hid (step_go cs s w1 HV1.out.st HT1.out)
        go_wp2_with (refine wpList_load_row rfl 28 _ rfl w.heap.size rfl 28 cs (0, 0) _ HV1.out.g Tryd.underlying28 rfl (by rw [HS.out]; exact size28) ?_)
        refine HR.out.mono ?_
        rw [HG.out]
        rintro e w2 ⟨cs', rfl, hst, hx1⟩
        have HP := Lib.hid hst
        have HA := Lib.hid (asg_mk w2 hst.st 0 0)
        have HS2 := Lib.hid hst.st.size
        have HO := Lib.hid (st_one hst.st)
        have HX1' := Lib.hid hx1
        have H28 := Lib.hid (heap_alloc2_old w2 (.cells zeroSt 28) (.cells #[.int .i64 0, .int .i64 0] 30))
        have H30 := Lib.hid ((setRow_other _ w2.heap.size (w2.heap.size + 1) cs' (by omega)).trans (heap_alloc2_new w2 (.cells zeroSt 28) (.cells #[.int .i64 0, .int .i64 0] 30)))
        clear hst hx1
        simp only [fAgg]
        go_wp2_with (first | refine wpList_alloc28 rfl rfl ?_ | refine wpList_store_row rfl 28 _ _ rfl w2.heap.size cs' rfl rfl 28 zeroSt H28.out (by rw [HS2.out]; exact size28) (by rw [HS2.out]; rfl) HO.out ?_ | refine wpList_store_row rfl 30 _ _ rfl (w2.heap.size + 1) #[.int .i64 0, .int .i64 0] rfl rfl 30 _ H30.out size30 rfl (by kernel_rfl) ?_)
        go_meet
        exact ⟨_, cs', rfl, rfl, HA.out.v, HA.out.f, HX1'.out.trans HA.out.x, HX1'.out.size, apart_mk HP.out HA.out.x⟩
      case rest =>
        obtain ⟨ga, ca, rfl, rfl, hva, hfa, hxa, hga, hap⟩ := hcut
        obtain ⟨wa, rfl⟩ : ∃ wa : World, wa = wc := ⟨_, rfl⟩
        have fa : wa.cell? ⟨ga + 1, 0, none⟩ = some (.int .i64 0) := blk_cell hfa 0
        obtain ⟨n, hn⟩ : ∃ n, (runF 1 s).1.stop = n := ⟨_, rfl⟩
        have ft : wa.cell? ⟨ga, 38, none⟩ = some (.int .i64 n) := (blk_cell hva.g 38).trans (by rw [hva.st.stop, hn])
        have HVS := Lib.hid (HV1.out.ext hxa)
        have fs : wa.cell? ⟨w.heap.size, 38, none⟩ = some (.int .i64 s.stop) := (blk_cell HVS.out.g 38).trans HVS.out.st.stop
        have HVA := Lib.hid hva
        have HSA := Lib.hid hva.st.size
        have HXA := Lib.hid (HX1.out.trans hxa)
        have HAP := Lib.hid hap
        have HN := Lib.hid hn
        have fz := blk_frozen hva.g 38
        clear hva hfa hxa hap hn
        by_cases h1 : n = 1
        · subst h1
          go_wp2_with fail
          go_ret
          exact ⟨rfl, HXA.out⟩
        · have h1' : (n == 1) = false := by simpa using h1
          by_cases h0 : n = 0
          · subst h0
            rw [stop_zero s HN.out] at fs
            go_wp2_with fail
            go_ret
            exact ⟨rfl, HXA.out⟩
          · have h0' : (n == 0) = false := by simpa using h0
            have HLAW := Lib.hid (stop_law s (by rw [HN.out]; exact h1) (by rw [HN.out]; exact h0))
            have HXB := Lib.hid (HXA.out.setCell (p := ⟨ga, 38, none⟩) (by show w.heap.size ≤ ga; omega) (.int .i64 s.stop))
            have HGS : Hid ((wa.setCell ⟨ga, 38, none⟩ (.int .i64 s.stop)).heap[w.heap.size]? = some (.cells cs 28 (0, 0))) := (Below.heap_setCell wa ⟨ga, 38, none⟩ _ w.heap.size (by show w.heap.size ≠ ga; omega)).trans HVS.out.g
            have HGT := Lib.hid (heap_set_bm HVA.out.g 38 (.int .i64 s.stop))
            have HST : Hid (StIs (wa.setCell ⟨ga, 38, none⟩ (.int .i64 s.stop)) (ca.setIfInBounds 38 (.int .i64 s.stop)) { (runF 1 s).1 with stop := s.stop }) := stop_set (HAP.out _ fun k hk => Below.heap_setCell wa ⟨ga, 38, none⟩ _ k (by show k ≠ ga; omega)) HH.out.wf.stop
            have HSB : Hid ((ca.setIfInBounds 38 (.int .i64 s.stop)).size = 39) := by show _ = _; rw [Array.size_setIfInBounds]; exact HSA.out
            go_wp2_with (first | refine wpList_load_row rfl 28 _ rfl w.heap.size rfl 28 cs (0, 0) _ HGS.out Tryd.underlying28 rfl (by rw [HS.out]; exact size28) ?_ | refine wpList_load_row rfl 28 _ rfl ga rfl 28 (ca.setIfInBounds 38 (.int .i64 s.stop)) (0, 0) _ HGT.out Tryd.underlying28 rfl (by rw [HSB.out]; exact size28) ?_)
            refine (same_c cs _ s _ _ (HH.out.ext HXB.out) HST.out).mono ?_
            rw [HLAW.out, (sameB_iff _ _).2 rfl]
            rintro e w9 ⟨rfl, hx9⟩
            have HX9 := Lib.hid (HXB.out.trans hx9)
            clear hx9
            go_wp2_with fail
            go_ret
            exact ⟨rfl, HX9.out⟩
    · have hgb := runG_bad (n := 1) hci hc0
      have HGB := Lib.hid hgb
      clear hgb hci
      go_upto_region 3 with (fail)
      go_cut [3, 4] (fun s3 s4 wx => ∃ g' cs', s3 = .pointer (some ⟨g', 0, none⟩) ∧ s4 = .pointer (some ⟨g' + 1, 0, none⟩) ∧ Var wx g' cs' st0 ∧ wx.heap[g' + 1]? = some (.cells #[.int .i64 c, .int .i64 i] 30 (0, 0)) ∧ Ext w1 wx ∧ w1.heap.size ≤ g' ∧ Apart wx g' cs' st0)
      case first =>
        have HR := Lib.hid (step_go cs s w1 HV1.out.st HT1.out)
        go_wp2_with (refine wpList_load_row rfl 28 _ rfl w.heap.size rfl 28 cs (0, 0) _ HV1.out.g Tryd.underlying28 rfl (by rw [HS.out]; exact size28) ?_)
        refine HR.out.mono ?_
        rw [HGB.out]
        rintro e w2 ⟨cs', rfl, hst, hx1⟩
        have HP := Lib.hid hst
        have HA := Lib.hid (asg_mk w2 hst.st c i)
        have HS2 := Lib.hid hst.st.size
        have HO := Lib.hid (st_one hst.st)
        have HX1' := Lib.hid hx1
        have H28 := Lib.hid (heap_alloc2_old w2 (.cells zeroSt 28) (.cells #[.int .i64 0, .int .i64 0] 30))
        have H30 := Lib.hid ((setRow_other _ w2.heap.size (w2.heap.size + 1) cs' (by omega)).trans (heap_alloc2_new w2 (.cells zeroSt 28) (.cells #[.int .i64 0, .int .i64 0] 30)))
        clear hst hx1
        simp only [fAgg]
        go_wp2_with (first | refine wpList_alloc28 rfl rfl ?_ | refine wpList_store_row rfl 28 _ _ rfl w2.heap.size cs' rfl rfl 28 zeroSt H28.out (by rw [HS2.out]; exact size28) (by rw [HS2.out]; rfl) HO.out ?_ | refine wpList_store_row rfl 30 _ _ rfl (w2.heap.size + 1) #[.int .i64 c, .int .i64 i] rfl rfl 30 _ H30.out size30 rfl (by kernel_rfl) ?_)
        go_meet
        exact ⟨_, cs', rfl, rfl, HA.out.v, HA.out.f, HX1'.out.trans HA.out.x, HX1'.out.size, apart_mk HP.out HA.out.x⟩
      case rest =>
        obtain ⟨ga, ca, rfl, rfl, hva, hfa, hxa, hga, hap⟩ := hcut
        obtain ⟨wa, rfl⟩ : ∃ wa : World, wa = wc := ⟨_, rfl⟩
        have fa : wa.cell? ⟨ga + 1, 0, none⟩ = some (.int .i64 c) := blk_cell hfa 0
        have ft : wa.cell? ⟨ga, 38, none⟩ = some (.int .i64 0) := (blk_cell hva.g 38).trans hva.st.stop
        have hne : (c != 0) = true := by simpa using hc0
        have hne' : (c == 0) = false := by simpa using hc0
        have HXA := Lib.hid (HX1.out.trans hxa)
        clear hva hfa hxa hap
        go_wp2_with fail
        go_ret
        exact ⟨rfl, HXA.out⟩
end Go.Proofs.YtpooedfchjpndaaDoor
