import Derived.Test.YtpooedfchjpndaaDoorStop
namespace Go.Proofs.YtpooedfchjpndaaDoor
open Go Go.Proofs Go.RowKit
set_option maxHeartbeats 3200000
set_option maxRecDepth 100000
/-- s[m:] -/
theorem run_slice_from {P : Program} (w : World) (t e : TypeId) (i : TypeInfo) (ht : P.underlying t = some (.slice e)) (hi : P.info? e = some i) (hsz : i.size = 1) (A : Option Addr) (n c m : Nat) (k : IntKind) (hn : m ≤ n) :
    (Instr.slice t (.slice A n c) (some (.int k (m : Int))) none none).run P w = .ok (.slice (if c = m then A else A.map (·.add m)) (n - m) (c - m)) w := by
  simp [Instr.slice, Instr.sliceBounds, Instr.sliceBound, run_underlying ht, asIntOf, sizeOf, typeInfo, hi, hsz, hn]
theorem add_addr (a : Addr) (m i : Nat) : (a.add m).add i = a.add (m + i) := by
  cases a with
  | mk b o p =>
    unfold Addr.add
    by_cases hm : m = 0
    · subst hm; simp
    · by_cases hi : i = 0
      · subst hi; simp
      · simp [hm, hi]
        omega
theorem Sl.drop {w : World} {k : IntKind} {A : Option Addr} {l : List Int} (h : Sl w k A l) (m c : Nat) (hc : l.length ≤ c) : Sl w k (if c = m then A else A.map (·.add m)) (l.drop m) := by
  refine Sl.mk fun i x hx => ?_
  rw [List.getElem?_drop] at hx
  have hl := (List.getElem?_eq_some_iff.1 hx).1
  rw [if_neg (by omega)]
  obtain ⟨a, ha, hcell⟩ := h.one hx
  refine ⟨a.add m, by rw [ha]; rfl, ?_⟩
  rw [add_addr]; exact hcell
theorem streams_c (cs : Array Value) (s : St) (n : Int) (w : World) (h : StIs w cs s) (ht : Tabs w) : Calls Tryd.prog 6 #[.agg cs, .int .i64 n] w (BRet w true) := by
  have HT := Lib.hid ht
  have HH := Lib.hid h
  have HS := Lib.hid h.size
  clear ht h
  go_enter Tryd.func6, Tryd.ntmps6
  go_upto_region 0 with (fail)
  go_cut [2] (fun s2 wx => s2 = .pointer (some ⟨w.heap.size, 0, none⟩) ∧ Var wx w.heap.size cs s ∧ Ext w wx)
  case first =>
    go_wp2_with fail
    go_meet
    exact ⟨rfl, var_box w cs s HH.out, (Ext.refl w).alloc _⟩
  case rest =>
    obtain ⟨rfl, hv, hx⟩ := hcut
    have HV := Lib.hid hv
    have HX := Lib.hid hx
    clear hv hx
    go_upto_region 3 with (go_at_call 13; refine (stacked_c _ (HT.out.below HX.out (tabs_lt HT.out))).mono ?_; rintro e w1 ⟨rfl, hx1⟩; have HV1 := Lib.hid (HV.out.ext hx1); have HX1 := Lib.hid (HX.out.trans hx1); clear hx1)
    have HT1 := Lib.hid (HT.out.below HX1.out (tabs_lt HT.out))
    have hcs : (∃ c i, runG s n = (st0, 0, (c, i)) ∧ c ≠ 0) ∨ (∃ N : Nat, N ≤ 60000 ∧ OkSt s ∧ runG s n = ((runF N s).1, ((runF N s).2 : Int), (0, 0))) := by
      by_cases hq : faultOf s = (0, 0)
      · by_cases hn : 0 ≤ n ∧ n ≤ 60000
        · exact .inr ⟨n.toNat, by omega, ok_of HH.out hq, runG_good hq hn⟩
        · exact .inl ⟨4, -2, runG_range hq hn, by decide⟩
      · obtain ⟨c, i, hci⟩ := fault_pair s
        have := fault_code hq
        rw [hci] at this
        exact .inl ⟨c, i, runG_bad hci this, this⟩
    rcases hcs with ⟨c, i, hg, hc0⟩ | ⟨N, hN, hok, hg⟩
    · have HG := Lib.hid hg
      clear hg
      go_upto_region 3 with (fail)
      go_cut [5, 6, 7] (fun s5 s6 s7 wx => ∃ g' cs', s5 = .pointer (some ⟨g', 0, none⟩) ∧ s6 = .int .i64 0 ∧ s7 = .pointer (some ⟨g' + 1, 0, none⟩) ∧ Var wx g' cs' st0 ∧ wx.heap[g' + 1]? = some (.cells #[.int .i64 c, .int .i64 i] 30 (0, 0)) ∧ Ext w1 wx)
      case first =>
        have HR := Lib.hid (run_all cs s n w1 HV1.out.st HT1.out)
        go_wp2_with (refine wpList_load_row rfl 28 _ rfl w.heap.size rfl 28 cs (0, 0) _ HV1.out.g Tryd.underlying28 rfl (by rw [HS.out]; exact size28) ?_)
        refine HR.out.mono ?_
        rw [HG.out]
        rintro e w1 ⟨cs', rfl, hst, hx1⟩
        have HA := Lib.hid (asg_mk w1 hst.st c i)
        have HS2 := Lib.hid hst.st.size
        have HO := Lib.hid (st_one hst.st)
        have HX1 := Lib.hid hx1
        have H28 := Lib.hid (heap_alloc2_old w1 (.cells zeroSt 28) (.cells #[.int .i64 0, .int .i64 0] 30))
        have H30 := Lib.hid ((setRow_other _ w1.heap.size (w1.heap.size + 1) cs' (by omega)).trans (heap_alloc2_new w1 (.cells zeroSt 28) (.cells #[.int .i64 0, .int .i64 0] 30)))
        clear hst hx1
        simp only [fAgg]
        go_wp2_with (first | refine wpList_alloc28 rfl rfl ?_ | refine wpList_store_row rfl 28 _ _ rfl w1.heap.size cs' rfl rfl 28 zeroSt H28.out (by rw [HS2.out]; exact size28) (by rw [HS2.out]; rfl) HO.out ?_ | refine wpList_store_row rfl 30 _ _ rfl (w1.heap.size + 1) #[.int .i64 c, .int .i64 i] rfl rfl 30 _ H30.out size30 rfl (by kernel_rfl) ?_)
        go_meet
        exact ⟨_, cs', rfl, rfl, rfl, HA.out.v, HA.out.f, HX1.out.trans HA.out.x⟩
      case rest =>
        obtain ⟨ga, ca, rfl, rfl, rfl, hva, hfa, hxa⟩ := hcut
        obtain ⟨wa, rfl⟩ : ∃ wa : World, wa = wc := ⟨_, rfl⟩
        have fa : wa.cell? ⟨ga + 1, 0, none⟩ = some (.int .i64 c) := blk_cell hfa 0
        obtain ⟨A0, c0, e0, _⟩ := hva.st.image
        have ft : wa.cell? ⟨ga, 0, none⟩ = some (.slice A0 0 c0) := (blk_cell hva.g 0).trans e0
        have hne : (c != 0) = true := by simpa using hc0
        have HXA := Lib.hid (HX1.out.trans hxa)
        clear hva hfa hxa e0
        go_wp2_with fail
        go_ret
        exact ⟨rfl, HXA.out⟩
    · have HG := Lib.hid hg
      have HOK := Lib.hid hok
      clear hg hok
      go_upto_region 3 with (fail)
      go_cut [5, 6, 7] (fun s5 s6 s7 wx => ∃ g' cs', s5 = .pointer (some ⟨g', 0, none⟩) ∧ s6 = .int .i64 ((runF N s).2 : Int) ∧ s7 = .pointer (some ⟨g' + 1, 0, none⟩) ∧ Var wx g' cs' (runF N s).1 ∧ wx.heap[g' + 1]? = some (.cells #[.int .i64 0, .int .i64 0] 30 (0, 0)) ∧ Ext w1 wx)
      case first =>
        have HR := Lib.hid (run_all cs s n w1 HV1.out.st HT1.out)
        go_wp2_with (refine wpList_load_row rfl 28 _ rfl w.heap.size rfl 28 cs (0, 0) _ HV1.out.g Tryd.underlying28 rfl (by rw [HS.out]; exact size28) ?_)
        refine HR.out.mono ?_
        rw [HG.out]
        rintro e w1 ⟨cs', rfl, hst, hx1⟩
        have HA := Lib.hid (asg_mk w1 hst.st 0 0)
        have HS2 := Lib.hid hst.st.size
        have HO := Lib.hid (st_one hst.st)
        have HX1 := Lib.hid hx1
        have H28 := Lib.hid (heap_alloc2_old w1 (.cells zeroSt 28) (.cells #[.int .i64 0, .int .i64 0] 30))
        have H30 := Lib.hid ((setRow_other _ w1.heap.size (w1.heap.size + 1) cs' (by omega)).trans (heap_alloc2_new w1 (.cells zeroSt 28) (.cells #[.int .i64 0, .int .i64 0] 30)))
        clear hst hx1
        simp only [fAgg]
        go_wp2_with (first | refine wpList_alloc28 rfl rfl ?_ | refine wpList_store_row rfl 28 _ _ rfl w1.heap.size cs' rfl rfl 28 zeroSt H28.out (by rw [HS2.out]; exact size28) (by rw [HS2.out]; rfl) HO.out ?_ | refine wpList_store_row rfl 30 _ _ rfl (w1.heap.size + 1) #[.int .i64 0, .int .i64 0] rfl rfl 30 _ H30.out size30 rfl (by kernel_rfl) ?_)
        go_meet
        exact ⟨_, cs', rfl, rfl, rfl, HA.out.v, HA.out.f, HX1.out.trans HA.out.x⟩
      case rest =>
        obtain ⟨ga, ca, rfl, rfl, rfl, hva, hfa, hxa⟩ := hcut
        obtain ⟨wa, rfl⟩ : ∃ wa : World, wa = wc := ⟨_, rfl⟩
        have fa : wa.cell? ⟨ga + 1, 0, none⟩ = some (.int .i64 0) := blk_cell hfa 0
        have HVS := HV1.out.ext hxa
        obtain ⟨A0, c0, e0, l0, m0, _, s0⟩ := HVS.st.image
        obtain ⟨A5, c5, e5, l5, m5, _, s5⟩ := HVS.st.input
        obtain ⟨A6, c6, e6, l6, m6, _, s6⟩ := HVS.st.output
        obtain ⟨B0, d0, r0, k0, n0, _, t0⟩ := hva.st.image
        obtain ⟨B5, d5, r5, k5, n5, _, t5⟩ := hva.st.input
        obtain ⟨B6, d6, r6, k6, n6, _, t6⟩ := hva.st.output
        have hstr := run_streams N s
        obtain ⟨hi0, ⟨k, hk, hk'⟩, ⟨lo, hlo⟩⟩ := hstr
        rw [hi0] at r0 t0 k0
        rw [hk'] at r5 t5 k5
        rw [hlo] at r6 t6 k6
        have hil := HOK.out.inl
        have hol := HOK.out.ol
        have himl := HOK.out.il
        have hol2 : (s.output ++ lo).length ≤ 1000 := by rw [← hlo]; exact (runF_ok N s HOK.out).ol
        have x0 : wa.cell? ⟨w.heap.size, 0, none⟩ = some (.slice A0 s.image.length c0) := (blk_cell HVS.g 0).trans e0
        have x5 : wa.cell? ⟨w.heap.size, 36, none⟩ = some (.slice A5 s.input.length c5) := (blk_cell HVS.g 36).trans e5
        have x6 : wa.cell? ⟨w.heap.size, 37, none⟩ = some (.slice A6 s.output.length c6) := (blk_cell HVS.g 37).trans e6
        have y0 : wa.cell? ⟨ga, 0, none⟩ = some (.slice B0 s.image.length d0) := (blk_cell hva.g 0).trans r0
        have y5 : wa.cell? ⟨ga, 36, none⟩ = some (.slice B5 (s.input.drop k).length d5) := (blk_cell hva.g 36).trans r5
        have y6 : wa.cell? ⟨ga, 37, none⟩ = some (.slice B6 (s.output ++ lo).length d6) := (blk_cell hva.g 37).trans r6
        obtain ⟨i0, hi, hz0, hz1, hz2⟩ := info_parts info5
        have hsl := fun j => run_slice_from (P := Tryd.prog) (wa.drewN j) 22 5 i0 Tryd.underlying22 hi hz1 A5 s.input.length c5 k .i64 hk
        have HQ1 : Hid (∀ j, Calls Tryd.prog 17 #[.slice A0 s.image.length c0, .slice B0 s.image.length d0] (wa.drewN j) fun e w' => e = .returned (.bool true) ∧ ∃ m, w' = wa.drewN m) := fun j => (SameBytes_c A0 B0 s.image s.image c0 d0 (wa.drewN j) (s0.drewN j) (t0.drewN j) HH.out.wf.image HH.out.wf.image).mono fun e w' ⟨he, hw⟩ => ⟨by rw [he, decide_eq_true rfl], j, hw.symm⟩
        have hbd : Byt (s.input.drop k) := fun x hx => HH.out.wf.input x (List.mem_of_mem_drop hx)
        have HQ2 : Hid (∀ j, Calls Tryd.prog 17 #[.slice (if c5 = k then A5 else A5.map (·.add k)) (s.input.length - k) (c5 - k), .slice B5 (s.input.drop k).length d5] (wa.drewN j) fun e w' => e = .returned (.bool true) ∧ ∃ m, w' = wa.drewN m) := fun j => by
          have := SameBytes_c (if c5 = k then A5 else A5.map (·.add k)) B5 (s.input.drop k) (s.input.drop k) (c5 - k) d5 (wa.drewN j) ((s5.drop k c5 l5).drewN j) (t5.drewN j) hbd hbd
          rw [List.length_drop] at this ⊢
          exact this.mono fun e w' ⟨he, hw⟩ => ⟨by rw [he, decide_eq_true rfl], j, hw.symm⟩
        have HQ3 : Hid (∀ j, Calls Tryd.prog 18 #[.slice B6 (s.output ++ lo).length d6, .slice A6 s.output.length c6] (wa.drewN j) fun e w' => e = .returned (.bool true) ∧ ∃ m, w' = wa.drewN m) := fun j =>
          (Begins_c B6 A6 (s.output ++ lo) s.output d6 c6 (wa.drewN j) k6 n6 (by unfold maxLen; omega) (t6.drewN j) (s6.drewN j) (by rw [← hlo]; exact hva.st.wf.output) HH.out.wf.output).mono fun e w' ⟨he, m, hw⟩ => ⟨by rw [he, decide_eq_true (by simp)], j + m, by rw [hw, World.drewN_drewN]⟩
        have hdl : (s.input.drop k).length = s.input.length - k := List.length_drop
        obtain ⟨q, hq⟩ : ∃ q, q = (s.input.drop k).length := ⟨_, rfl⟩
        rw [← hq] at HQ2 y5 hdl
        have hql : q + k = s.input.length := by omega
        obtain ⟨q6, hq6⟩ : ∃ q6, q6 = (s.output ++ lo).length := ⟨_, rfl⟩
        rw [← hq6] at HQ3 y6 hol2
        have HQL := Lib.hid hql
        have HSL := Lib.hid hsl
        have HXA := Lib.hid (HX1.out.trans hxa)
        have hqle : q ≤ 1000 := by omega
        clear hva hfa hxa HVS e0 e5 e6 r0 r5 r6 s0 s5 s6 t0 t5 t6 hi0 hk' hlo hbd hdl hq hql hq6 hsl hz0 hz1 hz2 hi l0 m0 l5 m5 l6 m6 k0 n0 k5 n5 k6 n6
        go_upto_region 6 with (fail)
        go_cut [8] (fun s8 wx => s8 = .int .i64 (k : Int) ∧ wx = wa)
        case first =>
          go_wp2_with fail
          go_meet
          exact ⟨by have := HQL.out; congr 1; omega, rfl⟩
        case rest =>
          obtain ⟨rfl, hw⟩ := hcut
          subst hw
          have hsl := HSL.out
          clear HSL
          have hkd : decide ((0 : Int) ≤ (k : Int)) = true := by simp
          go_wp2_with fail
          go_quiet ((first | (go_at_call 17; (first | (with_reducible exact HQ1.out _) | (with_reducible exact HQ2.out _))) | (go_at_call 18; (with_reducible exact HQ3.out _))))
          go_wp2_with fail
          all_goals (go_ret; exact ⟨rfl, HXA.out.drewN _⟩)
end Go.Proofs.YtpooedfchjpndaaDoor
