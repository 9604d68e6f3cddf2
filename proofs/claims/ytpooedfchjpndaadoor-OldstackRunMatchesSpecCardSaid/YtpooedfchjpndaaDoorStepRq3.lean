import Derived.Test.YtpooedfchjpndaaDoorStepRp
namespace Go.Proofs.YtpooedfchjpndaaDoor
open Go Go.Proofs Go.RowKit
set_option maxHeartbeats 12800000
set_option maxRecDepth 100000
theorem stepR_20 (bad : Nat → Prop) (cs : Array Value) (s : St) (w : World) (hbad : ∀ g, bad g → g < w.heap.size) (h : StAv bad w cs s) (hok : OkSt s) (hz : stopOf s = 0) (hg : GoesOn s 20) : Calls Tryd.prog 26 #[.agg cs] w (SpRet bad w (stepF s)) := by
  have HH := Lib.hid h
  have HOK := Lib.hid hok
  have HS := Lib.hid h.st.size
  have HG := Lib.hid hg
  have HBAD := Lib.hid hbad
  have HZ := Lib.hid hz
  obtain ⟨r, hr⟩ : ∃ r, stepF s = r := ⟨_, rfl⟩
  rw [hr]
  have HR := Lib.hid hr
  have il := hok.il
  have dl := hok.dl
  have rl := hok.rl
  have ol := hok.ol
  have inl := hok.inl
  have a0 := hok.at0
  have a1 := hok.at1
  obtain ⟨p, hp⟩ : ∃ p : Nat, s.at_ = p := ⟨s.at_.toNat, by omega⟩
  have HP1 := Lib.hid hp
  have hpl : p < s.image.length := by have := hg.lt; omega
  have hdn : 1 ≤ s.data.length := by have := hg.dl; rw [show takesOf 20 = 1 from rfl] at this; omega
  rw [hp] at a0 a1
  obtain ⟨A0, c0, e0, _, _, _, s0⟩ := h.st.image
  obtain ⟨A2, c2, e2, _, _, q2, s2⟩ := h.st.data
  obtain ⟨b, o, y, rfl, hy, ky⟩ := s0.at2 hpl
  have hyk : y = 20 := by have := hg.op; unfold opOf at this; rw [hp] at this; simp only [Int.toNat_natCast] at this; rw [hy.out] at this; exact this
  subst hyk
  have hbB := World.block_lt_of_cell? w _ ky
  simp only at hbB
  have hne : ¬ b = w.heap.size := by omega
  have hne' : ¬ w.heap.size = b := by omega
  have HE0 := Lib.hid e0
  have HE2 := Lib.hid e2
  have HS2 := Lib.hid s2
  have HKY := Lib.hid ky
  have hin : inB 20 16 18 = false := rfl
  clear h hok hz hr hp hg hbad e0 e2 s0 s2 ky
  obtain ⟨i0, hi, hz0, hz1, hz2⟩ := info_parts info25
  have HI := Lib.hid hi
  have HZ0 := Lib.hid hz0
  have HZ1 := Lib.hid hz1
  have HZ2 := Lib.hid hz2
  clear hi hz0 hz1 hz2
  go_enter Tryd.func26, Tryd.ntmps26
  go_upto_region 0 with (fail)
  go_cut [1, 2] (fun s1 s2 wx => s1 = .pointer (some ⟨w.heap.size, 0, none⟩) ∧ s2 = .pointer (some ⟨w.heap.size + 1, 0, none⟩) ∧ Two2 w wx cs)
  case first =>
    go_wp2_with fail
    go_meet
    exact ⟨rfl, rfl, zeroSt_lit ▸ two2_mk w cs⟩
  obtain ⟨rfl, rfl, ht⟩ := hcut
  have HT := Lib.hid ht
  have HC := Lib.hid (stopped_c cs s wc (HH.out.st.ext ht.x) HOK.out)
  clear ht
  go_upto_region 5 with (first | refine wpList_load_row rfl 28 _ rfl w.heap.size rfl 28 cs (0, 0) _ HT.out.b1 Tryd.underlying28 rfl (by rw [HS.out]; exact size28) ?_ | (go_at_call 31; refine HC.out.mono ?_; rw [HZ.out]; rintro e w1 ⟨rfl, hx1⟩; have HT1 := Lib.hid (HT.out.ext hx1); clear hx1))
  have HP0 := Lib.hid (two2_p0 HH.out HT1.out)
  have k0 : w1.cell? ⟨w.heap.size, 0, none⟩ = some (.slice (some ⟨b, o, none⟩) s.image.length c0) := (blk_cell HT1.out.b1 0).trans HE0.out
  have k1 : w1.cell? ⟨w.heap.size, 1, none⟩ = some (.int .i64 (p : Int)) := (blk_cell HT1.out.b1 1).trans (by rw [HH.out.st.at_, HP1.out])
  have z1 := blk_frozen HT1.out.b1 1
  have ky := HT1.out.x.cell HKY.out
  go_upto_region 14 with ((go_at_call 16; refine (In_c _ _ _ _).mono ?_; rintro e w' ⟨rfl, rfl⟩))
  go_cut [6] (fun s6 wx => s6 = .slice none 0 0 ∧ P0 bad w wx { s with at_ := (p : Int) + 1 } (cs.setIfInBounds 1 (.int .i64 ((p : Int) + 1))))
  case first =>
    go_wp2_with fail
    go_meet
    exact ⟨rfl, HP0.out.set (fun F h => at_set (n := (p : Int) + 1) h ⟨by omega, by omega⟩)⟩
  obtain ⟨rfl, hp0⟩ := hcut
  obtain ⟨w0, rfl⟩ : ∃ w0 : World, w0 = wc := ⟨_, rfl⟩
  have hlt0 := hp0.lt
  have k2 : w0.cell? ⟨w.heap.size, 2, none⟩ = some (.slice A2 s.data.length c2) := (blk_cell hp0.b1 2).trans (by rw [keyne (by decide)]; exact HE2.out)
  have HSL := Lib.hid (s2_ext HS2.out hp0.x)
  have HP2 := Lib.hid hp0
  clear hp0 k0 k1 z1 ky
  go_upto_region 16 with (at_builtin; refine wpList_append_sl rfl _ _ 23 rfl (w.heap.size + 2) 25 i0 (.int .u16 0) 1 2 Tryd.underlying23 HI.out HZ0.out HZ1.out HZ2.out rfl (by decide) _ 0 [] rfl (World.ownsRow_nil _ _ _ _) A2 s.data.length c2 (s.data.map (Value.int .u16)) rfl HSL.out (by simp) ints_one (by unfold maxLen; omega) (by omega) (by omega) ?_; intro v w2 ho hgr _hat; simp only [Nat.zero_add, List.nil_append] at ho; have HPR := Lib.hid (HP2.out.row ho hgr); obtain ⟨A, c, rfl, hnc, hcm, hA, hsl⟩ := own_sl ho; clear hgr ho _hat)
  clear k2
  have hlt2 := HPR.out.lt
  obtain ⟨gd, rfl, hgd⟩ := own_head HPR.out.own (by omega)
  obtain ⟨t1, ht1⟩ : ∃ t, s.data[s.data.length - 1]? = some t := ⟨_, List.getElem?_eq_getElem (by omega)⟩
  have kt1 : w2.cell? ⟨gd, s.data.length - 1, none⟩ = some (.int .u16 t1) := (HPR.out.own.cellAt (s.data.length - 1) (by omega)).trans (by rw [List.getElem?_map, ht1]; rfl)
  have bt1 : 0 ≤ t1 ∧ t1 < 65536 := HOK.out.wf.data t1 (List.mem_of_getElem? ht1)
  obtain ⟨b10, b11⟩ := bt1
  have HT1' : Hid (topF s.data 0 = t1) := top_at (i := 0) (by rw [Nat.sub_zero]; exact ht1) (by omega)
  have HTT1 := Lib.hid ht1
  have i1 : ((s.data.length : Int) - 1).toNat = s.data.length - 1 := by omega
  have i2 : 0 ≤ (s.data.length : Int) - 1 := by omega
  have i3 : (s.data.length : Int) - 1 < s.data.length := by omega
  clear ht1
  have hm32 : t1 < 32 := by have := HG.out.mm (.inl rfl); rw [HT1'.out] at this; exact this
  obtain ⟨m, hmm⟩ : ∃ m, s.mem[t1.toNat]?.getD 0 = m := ⟨_, rfl⟩
  have km : w2.cell? ⟨w.heap.size, 4 + t1.toNat, none⟩ = some (.int .u16 m) := (blk_cell HPR.out.b1 (4 + t1.toNat)).trans (by rw [HPR.out.is.mem t1.toNat (by omega)]; show some (Value.int .u16 (s.mem[t1.toNat]?.getD 0)) = _; rw [hmm])
  have bm : 0 ≤ m ∧ m < 65536 := by
    rw [← hmm, List.getElem?_eq_getElem (by rw [HOK.out.wf.memlen]; omega)]
    exact HOK.out.wf.mem _ (List.getElem_mem _)
  obtain ⟨bm0, bm1⟩ := bm
  have HMM := Lib.hid hmm
  have zt1 := HPR.out.own.frozenAt (s.data.length - 1)
  clear hmm
  go_upto_region 63 with (fail)
  refine wp_world (fun wx => Mid bad w wx { s with at_ := (p : Int) + 1 } (cs.setIfInBounds 1 (.int .i64 ((p : Int) + 1))) (.slice (some ⟨gd, 0, none⟩) s.data.length c) (s.data.set (s.data.length - 1) m)) (HPR.out.store (s.data.length - 1) m).mid ?_
  intro wf hm
  have HHALF : Hid (Half (s.data.set (s.data.length - 1) m)) := (by show Half _; rw [set_one (by omega)]; exact half_append (fun x hx => HOK.out.wf.data x (List.mem_of_mem_take hx)) (half_cons ⟨by omega, by omega⟩ half_nil))
  have HEQ : Hid ({ { s with at_ := (p : Int) + 1 } with data := (s.data.set (s.data.length - 1) m) } = r) := by
    show _ = r
    rw [← HR.out, stepF_go HZ.out HG.out.op]
    exact st_eq rfl (by show (p : Int) + 1 = s.at_ + 1 + sizeOp 20; rw [HP1.out]; have : sizeOp 20 = 0 := rfl; omega) (by show s.data.set (s.data.length - 1) m = s.data.take (s.data.length - 1) ++ [s.mem[(topF s.data 0).toNat]?.getD 0]; rw [set_one (by omega), HT1'.out, HMM.out]) rfl rfl rfl rfl rfl
  obtain ⟨A9, c9, e9, _⟩ := hm.is.data
  have k9 := (blk_cell hm.b1 2).trans e9
  have z9 := blk_frozen hm.b1 2
  have HB1 := Lib.hid (heap_set_bm hm.b1 2 (.slice (some ⟨gd, 0, none⟩) s.data.length c))
  have HB2 : Hid ((wf.setCell ⟨w.heap.size, 2, none⟩ (.slice (some ⟨gd, 0, none⟩) s.data.length c)).heap[w.heap.size + 1]? = some (.cells zeroSt 28 (0, 0))) := (set_other (by omega)).trans hm.b2
  have HST := Lib.hid (data_set hm.is (own_agr HBAD.out hm.own (fun _ _ _ _ _ => rfl)) HHALF.out)
  have HSB := Lib.hid HST.out.size
  have HO := Lib.hid (st_one HST.out)
  have HFIN := Lib.hid (hm.fin HBAD.out HHALF.out HEQ.out)
  clear hm e9
  obtain ⟨cz, hcz⟩ : ∃ cz, cz = (cs.setIfInBounds 1 (.int .i64 ((p : Int) + 1))).setIfInBounds 2 (.slice (some ⟨gd, 0, none⟩) s.data.length c) := ⟨_, rfl⟩
  rw [← hcz] at HB1 HSB HO HFIN
  clear hcz HST
  go_wp2_with (first | refine wpList_load_row rfl 28 _ rfl w.heap.size rfl 28 cz (0, 0) _ HB1.out Tryd.underlying28 rfl (by rw [HSB.out]; exact size28) ?_ | refine wpList_store_row rfl 28 _ _ rfl (w.heap.size + 1) cz rfl rfl 28 zeroSt HB2.out (by rw [HSB.out]; exact size28) (by rw [HSB.out]; rfl) HO.out ?_)
  refine bodyPost_ret (results_one rfl _ _ (w.heap.size + 1) 28 cz (0, 0) _ rfl ?_ Tryd.underlying28 rfl (by rw [HSB.out]; exact size28)) rfl HFIN.out
  exact setRow_heap _ _ _ _ _ _ HB2.out
theorem stepR_21 (bad : Nat → Prop) (cs : Array Value) (s : St) (w : World) (hbad : ∀ g, bad g → g < w.heap.size) (h : StAv bad w cs s) (hok : OkSt s) (hz : stopOf s = 0) (hg : GoesOn s 21) : Calls Tryd.prog 26 #[.agg cs] w (SpRet bad w (stepF s)) := by
  have HH := Lib.hid h
  have HOK := Lib.hid hok
  have HS := Lib.hid h.st.size
  have HG := Lib.hid hg
  have HBAD := Lib.hid hbad
  have HZ := Lib.hid hz
  obtain ⟨r, hr⟩ : ∃ r, stepF s = r := ⟨_, rfl⟩
  rw [hr]
  have HR := Lib.hid hr
  have il := hok.il
  have dl := hok.dl
  have rl := hok.rl
  have ol := hok.ol
  have inl := hok.inl
  have a0 := hok.at0
  have a1 := hok.at1
  obtain ⟨p, hp⟩ : ∃ p : Nat, s.at_ = p := ⟨s.at_.toNat, by omega⟩
  have HP1 := Lib.hid hp
  have hpl : p < s.image.length := by have := hg.lt; omega
  have hdn : 2 ≤ s.data.length := by have := hg.dl; rw [show takesOf 21 = 2 from rfl] at this; omega
  rw [hp] at a0 a1
  obtain ⟨A0, c0, e0, _, _, _, s0⟩ := h.st.image
  obtain ⟨A2, c2, e2, _, _, q2, s2⟩ := h.st.data
  obtain ⟨b, o, y, rfl, hy, ky⟩ := s0.at2 hpl
  have hyk : y = 21 := by have := hg.op; unfold opOf at this; rw [hp] at this; simp only [Int.toNat_natCast] at this; rw [hy.out] at this; exact this
  subst hyk
  have hbB := World.block_lt_of_cell? w _ ky
  simp only at hbB
  have hne : ¬ b = w.heap.size := by omega
  have hne' : ¬ w.heap.size = b := by omega
  have HE0 := Lib.hid e0
  have HE2 := Lib.hid e2
  have HS2 := Lib.hid s2
  have HKY := Lib.hid ky
  have hin : inB 21 16 18 = false := rfl
  clear h hok hz hr hp hg hbad e0 e2 s0 s2 ky
  obtain ⟨i0, hi, hz0, hz1, hz2⟩ := info_parts info25
  have HI := Lib.hid hi
  have HZ0 := Lib.hid hz0
  have HZ1 := Lib.hid hz1
  have HZ2 := Lib.hid hz2
  clear hi hz0 hz1 hz2
  go_enter Tryd.func26, Tryd.ntmps26
  go_upto_region 0 with (fail)
  go_cut [1, 2] (fun s1 s2 wx => s1 = .pointer (some ⟨w.heap.size, 0, none⟩) ∧ s2 = .pointer (some ⟨w.heap.size + 1, 0, none⟩) ∧ Two2 w wx cs)
  case first =>
    go_wp2_with fail
    go_meet
    exact ⟨rfl, rfl, zeroSt_lit ▸ two2_mk w cs⟩
  obtain ⟨rfl, rfl, ht⟩ := hcut
  have HT := Lib.hid ht
  have HC := Lib.hid (stopped_c cs s wc (HH.out.st.ext ht.x) HOK.out)
  clear ht
  go_upto_region 5 with (first | refine wpList_load_row rfl 28 _ rfl w.heap.size rfl 28 cs (0, 0) _ HT.out.b1 Tryd.underlying28 rfl (by rw [HS.out]; exact size28) ?_ | (go_at_call 31; refine HC.out.mono ?_; rw [HZ.out]; rintro e w1 ⟨rfl, hx1⟩; have HT1 := Lib.hid (HT.out.ext hx1); clear hx1))
  have HP0 := Lib.hid (two2_p0 HH.out HT1.out)
  have k0 : w1.cell? ⟨w.heap.size, 0, none⟩ = some (.slice (some ⟨b, o, none⟩) s.image.length c0) := (blk_cell HT1.out.b1 0).trans HE0.out
  have k1 : w1.cell? ⟨w.heap.size, 1, none⟩ = some (.int .i64 (p : Int)) := (blk_cell HT1.out.b1 1).trans (by rw [HH.out.st.at_, HP1.out])
  have z1 := blk_frozen HT1.out.b1 1
  have ky := HT1.out.x.cell HKY.out
  go_upto_region 14 with ((go_at_call 16; refine (In_c _ _ _ _).mono ?_; rintro e w' ⟨rfl, rfl⟩))
  go_cut [6] (fun s6 wx => s6 = .slice none 0 0 ∧ P0 bad w wx { s with at_ := (p : Int) + 1 } (cs.setIfInBounds 1 (.int .i64 ((p : Int) + 1))))
  case first =>
    go_wp2_with fail
    go_meet
    exact ⟨rfl, HP0.out.set (fun F h => at_set (n := (p : Int) + 1) h ⟨by omega, by omega⟩)⟩
  obtain ⟨rfl, hp0⟩ := hcut
  obtain ⟨w0, rfl⟩ : ∃ w0 : World, w0 = wc := ⟨_, rfl⟩
  have hlt0 := hp0.lt
  have k2 : w0.cell? ⟨w.heap.size, 2, none⟩ = some (.slice A2 s.data.length c2) := (blk_cell hp0.b1 2).trans (by rw [keyne (by decide)]; exact HE2.out)
  have HSL := Lib.hid (s2_ext HS2.out hp0.x)
  have HP2 := Lib.hid hp0
  clear hp0 k0 k1 z1 ky
  go_upto_region 16 with (at_builtin; refine wpList_append_sl rfl _ _ 23 rfl (w.heap.size + 2) 25 i0 (.int .u16 0) 1 2 Tryd.underlying23 HI.out HZ0.out HZ1.out HZ2.out rfl (by decide) _ 0 [] rfl (World.ownsRow_nil _ _ _ _) A2 s.data.length c2 (s.data.map (Value.int .u16)) rfl HSL.out (by simp) ints_one (by unfold maxLen; omega) (by omega) (by omega) ?_; intro v w2 ho hgr _hat; simp only [Nat.zero_add, List.nil_append] at ho; have HPR := Lib.hid (HP2.out.row ho hgr); obtain ⟨A, c, rfl, hnc, hcm, hA, hsl⟩ := own_sl ho; clear hgr ho _hat)
  clear k2
  have hlt2 := HPR.out.lt
  obtain ⟨gd, rfl, hgd⟩ := own_head HPR.out.own (by omega)
  obtain ⟨t1, ht1⟩ : ∃ t, s.data[s.data.length - 1]? = some t := ⟨_, List.getElem?_eq_getElem (by omega)⟩
  have kt1 : w2.cell? ⟨gd, s.data.length - 1, none⟩ = some (.int .u16 t1) := (HPR.out.own.cellAt (s.data.length - 1) (by omega)).trans (by rw [List.getElem?_map, ht1]; rfl)
  have bt1 : 0 ≤ t1 ∧ t1 < 65536 := HOK.out.wf.data t1 (List.mem_of_getElem? ht1)
  obtain ⟨b10, b11⟩ := bt1
  have HT1' : Hid (topF s.data 0 = t1) := top_at (i := 0) (by rw [Nat.sub_zero]; exact ht1) (by omega)
  have HTT1 := Lib.hid ht1
  have i1 : ((s.data.length : Int) - 1).toNat = s.data.length - 1 := by omega
  have i2 : 0 ≤ (s.data.length : Int) - 1 := by omega
  have i3 : (s.data.length : Int) - 1 < s.data.length := by omega
  clear ht1
  obtain ⟨t2, ht2⟩ : ∃ t, s.data[s.data.length - 2]? = some t := ⟨_, List.getElem?_eq_getElem (by omega)⟩
  have kt2 : w2.cell? ⟨gd, s.data.length - 2, none⟩ = some (.int .u16 t2) := (HPR.out.own.cellAt (s.data.length - 2) (by omega)).trans (by rw [List.getElem?_map, ht2]; rfl)
  have bt2 : 0 ≤ t2 ∧ t2 < 65536 := HOK.out.wf.data t2 (List.mem_of_getElem? ht2)
  obtain ⟨b20, b21⟩ := bt2
  have HT2' : Hid (topF s.data 1 = t2) := top_at (i := 1) (by rw [show s.data.length - 1 - 1 = s.data.length - 2 from by omega]; exact ht2) (by omega)
  have HTT2 := Lib.hid ht2
  have j1 : ((s.data.length : Int) - 1 - 1).toNat = s.data.length - 2 := by omega
  have j2 : 0 ≤ (s.data.length : Int) - 1 - 1 := by omega
  have j3 : (s.data.length : Int) - 1 - 1 < s.data.length := by omega
  clear ht2
  have hm32 : t1 < 32 := by have := HG.out.mm (.inr rfl); rw [HT1'.out] at this; exact this
  obtain ⟨T, rfl⟩ : ∃ T : Nat, t1 = T := ⟨t1.toNat, by omega⟩
  have km : w2.cell? ⟨w.heap.size, 4 + T, none⟩ = some (.int .u16 (s.mem[T]?.getD 0)) := (blk_cell HPR.out.b1 (4 + T)).trans (HPR.out.is.mem T (by omega))
  have zm := blk_frozen HPR.out.b1 (4 + T)
  have hs2 : ∀ W : World, (Instr.slice 23 (.slice (some ⟨gd, 0, none⟩) s.data.length c) none (some (.int .i64 ((s.data.length : Int) - 1 - 1))) none).run Tryd.prog W = .ok (.slice (some ⟨gd, 0, none⟩) (s.data.length - 2) c) W := fun W => by have := run_slice_to (P := Tryd.prog) W 23 25 i0 Tryd.underlying23 HI.out (some ⟨gd, 0, none⟩) s.data.length c (s.data.length - 2) .i64 (by omega); rw [show ((s.data.length - 2 : Nat) : Int) = (s.data.length : Int) - 1 - 1 from by omega] at this; exact this
  have g1 : IntKind.i64.wrap ((s.data.length : Int) - 1 - 1) = (s.data.length : Int) - 1 - 1 := IntWalk.i64_in _ (by omega)
  go_upto_region 51 with (fail)
  go_region
  clear g1
  go_upto_region 63 with (fail)
  refine wp_world (fun wx => Mid bad w wx { { s with at_ := (p : Int) + 1 } with mem := s.mem.set T t2 } ((cs.setIfInBounds 1 (.int .i64 ((p : Int) + 1))).setIfInBounds (4 + T) (.int .u16 t2)) (.slice (some ⟨gd, 0, none⟩) (s.data.length - 2) c) (s.data.take (s.data.length - 2))) ((((HPR.out.set (fun F h => mem_set (s := { s with at_ := (p : Int) + 1 }) h (by omega) ⟨by omega, by omega⟩)).ext ((Ext.refl _).drew)).cut (by omega)).mid) ?_
  intro wf hm
  have HHALF : Hid (Half (s.data.take (s.data.length - 2))) := fun x hx => HOK.out.wf.data x (List.mem_of_mem_take hx)
  have HEQ : Hid ({ { { s with at_ := (p : Int) + 1 } with mem := s.mem.set T t2 } with data := (s.data.take (s.data.length - 2)) } = r) := by
    show _ = r
    rw [← HR.out, stepF_go HZ.out HG.out.op]
    exact st_eq rfl (by show (p : Int) + 1 = s.at_ + 1 + sizeOp 21; rw [HP1.out]; have : sizeOp 21 = 0 := rfl; omega) (by show s.data.take (s.data.length - 2) = s.data.take (s.data.length - 2) ++ []; simp) rfl (by show s.mem.set T t2 = s.mem.set (topF s.data 0).toNat (topF s.data 1); rw [HT1'.out, HT2'.out]; rfl) rfl rfl rfl
  obtain ⟨A9, c9, e9, _⟩ := hm.is.data
  have k9 := (blk_cell hm.b1 2).trans e9
  have z9 := blk_frozen hm.b1 2
  have HB1 := Lib.hid (heap_set_bm hm.b1 2 (.slice (some ⟨gd, 0, none⟩) (s.data.length - 2) c))
  have HB2 : Hid ((wf.setCell ⟨w.heap.size, 2, none⟩ (.slice (some ⟨gd, 0, none⟩) (s.data.length - 2) c)).heap[w.heap.size + 1]? = some (.cells zeroSt 28 (0, 0))) := (set_other (by omega)).trans hm.b2
  have HST := Lib.hid (data_set hm.is (own_agr HBAD.out hm.own (fun _ _ _ _ _ => rfl)) HHALF.out)
  have HSB := Lib.hid HST.out.size
  have HO := Lib.hid (st_one HST.out)
  have HFIN := Lib.hid (hm.fin HBAD.out HHALF.out HEQ.out)
  clear hm e9
  obtain ⟨cz, hcz⟩ : ∃ cz, cz = ((cs.setIfInBounds 1 (.int .i64 ((p : Int) + 1))).setIfInBounds (4 + T) (.int .u16 t2)).setIfInBounds 2 (.slice (some ⟨gd, 0, none⟩) (s.data.length - 2) c) := ⟨_, rfl⟩
  rw [← hcz] at HB1 HSB HO HFIN
  clear hcz HST
  go_wp2_with (first | refine wpList_load_row rfl 28 _ rfl w.heap.size rfl 28 cz (0, 0) _ HB1.out Tryd.underlying28 rfl (by rw [HSB.out]; exact size28) ?_ | refine wpList_store_row rfl 28 _ _ rfl (w.heap.size + 1) cz rfl rfl 28 zeroSt HB2.out (by rw [HSB.out]; exact size28) (by rw [HSB.out]; rfl) HO.out ?_)
  refine bodyPost_ret (results_one rfl _ _ (w.heap.size + 1) 28 cz (0, 0) _ rfl ?_ Tryd.underlying28 rfl (by rw [HSB.out]; exact size28)) rfl HFIN.out
  exact setRow_heap _ _ _ _ _ _ HB2.out
end Go.Proofs.YtpooedfchjpndaaDoor
