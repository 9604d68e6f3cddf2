import Derived.Test.YtpooedfchjpndaaDoorStepRp
namespace Go.Proofs.YtpooedfchjpndaaDoor
open Go Go.Proofs Go.RowKit
set_option maxHeartbeats 12800000
set_option maxRecDepth 100000
theorem stepR_4 (bad : Nat → Prop) (cs : Array Value) (s : St) (w : World) (hbad : ∀ g, bad g → g < w.heap.size) (h : StAv bad w cs s) (hok : OkSt s) (hz : stopOf s = 0) (hg : GoesOn s 4) : Calls Tryd.prog 26 #[.agg cs] w (SpRet bad w (stepF s)) := by
  have HH := Lib.hid h
  have HOK := Lib.hid hok
  have HS := Lib.hid h.st.size
  have HG := Lib.hid hg
  have HBAD := Lib.hid hbad
  have HZ := Lib.hid hz
  obtain ⟨r, hr⟩ : ∃ r, stepF s = r := ⟨_, rfl⟩
  rw [hr]
  have HR := Lib.hid hr
  have il := hok.il
  have dl := hok.dl
  have rl := hok.rl
  have ol := hok.ol
  have inl := hok.inl
  have a0 := hok.at0
  have a1 := hok.at1
  obtain ⟨p, hp⟩ : ∃ p : Nat, s.at_ = p := ⟨s.at_.toNat, by omega⟩
  have HP1 := Lib.hid hp
  have hpl : p < s.image.length := by have := hg.lt; omega
  have hdn : 2 ≤ s.data.length := by have := hg.dl; rw [show takesOf 4 = 2 from rfl] at this; omega
  rw [hp] at a0 a1
  obtain ⟨A0, c0, e0, _, _, _, s0⟩ := h.st.image
  obtain ⟨A2, c2, e2, _, _, q2, s2⟩ := h.st.data
  obtain ⟨b, o, y, rfl, hy, ky⟩ := s0.at2 hpl
  have hyk : y = 4 := by have := hg.op; unfold opOf at this; rw [hp] at this; simp only [Int.toNat_natCast] at this; rw [hy.out] at this; exact this
  subst hyk
  have hbB := World.block_lt_of_cell? w _ ky
  simp only at hbB
  have hne : ¬ b = w.heap.size := by omega
  have hne' : ¬ w.heap.size = b := by omega
  have HE0 := Lib.hid e0
  have HE2 := Lib.hid e2
  have HS2 := Lib.hid s2
  have HKY := Lib.hid ky
  have hin : inB 4 16 18 = false := rfl
  clear h hok hz hr hp hg hbad e0 e2 s0 s2 ky
  obtain ⟨i0, hi, hz0, hz1, hz2⟩ := info_parts info25
  have HI := Lib.hid hi
  have HZ0 := Lib.hid hz0
  have HZ1 := Lib.hid hz1
  have HZ2 := Lib.hid hz2
  clear hi hz0 hz1 hz2
  go_enter Tryd.func26, Tryd.ntmps26
  go_upto_region 0 with (fail)
  go_cut [1, 2] (fun s1 s2 wx => s1 = .pointer (some ⟨w.heap.size, 0, none⟩) ∧ s2 = .pointer (some ⟨w.heap.size + 1, 0, none⟩) ∧ Two2 w wx cs)
  case first =>
    go_wp2_with fail
    go_meet
    exact ⟨rfl, rfl, zeroSt_lit ▸ two2_mk w cs⟩
  obtain ⟨rfl, rfl, ht⟩ := hcut
  have HT := Lib.hid ht
  have HC := Lib.hid (stopped_c cs s wc (HH.out.st.ext ht.x) HOK.out)
  clear ht
  go_upto_region 5 with (first | refine wpList_load_row rfl 28 _ rfl w.heap.size rfl 28 cs (0, 0) _ HT.out.b1 Tryd.underlying28 rfl (by rw [HS.out]; exact size28) ?_ | (go_at_call 31; refine HC.out.mono ?_; rw [HZ.out]; rintro e w1 ⟨rfl, hx1⟩; have HT1 := Lib.hid (HT.out.ext hx1); clear hx1))
  have HP0 := Lib.hid (two2_p0 HH.out HT1.out)
  have k0 : w1.cell? ⟨w.heap.size, 0, none⟩ = some (.slice (some ⟨b, o, none⟩) s.image.length c0) := (blk_cell HT1.out.b1 0).trans HE0.out
  have k1 : w1.cell? ⟨w.heap.size, 1, none⟩ = some (.int .i64 (p : Int)) := (blk_cell HT1.out.b1 1).trans (by rw [HH.out.st.at_, HP1.out])
  have z1 := blk_frozen HT1.out.b1 1
  have ky := HT1.out.x.cell HKY.out
  go_upto_region 14 with ((go_at_call 16; refine (In_c _ _ _ _).mono ?_; rintro e w' ⟨rfl, rfl⟩))
  go_cut [6] (fun s6 wx => s6 = .slice none 0 0 ∧ P0 bad w wx { s with at_ := (p : Int) + 1 } (cs.setIfInBounds 1 (.int .i64 ((p : Int) + 1))))
  case first =>
    go_wp2_with fail
    go_meet
    exact ⟨rfl, HP0.out.set (fun F h => at_set (n := (p : Int) + 1) h ⟨by omega, by omega⟩)⟩
  obtain ⟨rfl, hp0⟩ := hcut
  obtain ⟨w0, rfl⟩ : ∃ w0 : World, w0 = wc := ⟨_, rfl⟩
  have hlt0 := hp0.lt
  have k2 : w0.cell? ⟨w.heap.size, 2, none⟩ = some (.slice A2 s.data.length c2) := (blk_cell hp0.b1 2).trans (by rw [keyne (by decide)]; exact HE2.out)
  have HSL := Lib.hid (s2_ext HS2.out hp0.x)
  have HP2 := Lib.hid hp0
  clear hp0 k0 k1 z1 ky
  go_upto_region 16 with (at_builtin; refine wpList_append_sl rfl _ _ 23 rfl (w.heap.size + 2) 25 i0 (.int .u16 0) 1 2 Tryd.underlying23 HI.out HZ0.out HZ1.out HZ2.out rfl (by decide) _ 0 [] rfl (World.ownsRow_nil _ _ _ _) A2 s.data.length c2 (s.data.map (Value.int .u16)) rfl HSL.out (by simp) ints_one (by unfold maxLen; omega) (by omega) (by omega) ?_; intro v w2 ho hgr _hat; simp only [Nat.zero_add, List.nil_append] at ho; have HPR := Lib.hid (HP2.out.row ho hgr); obtain ⟨A, c, rfl, hnc, hcm, hA, hsl⟩ := own_sl ho; clear hgr ho _hat)
  clear k2
  have hlt2 := HPR.out.lt
  obtain ⟨gd, rfl, hgd⟩ := own_head HPR.out.own (by omega)
  obtain ⟨t1, ht1⟩ : ∃ t, s.data[s.data.length - 1]? = some t := ⟨_, List.getElem?_eq_getElem (by omega)⟩
  have kt1 : w2.cell? ⟨gd, s.data.length - 1, none⟩ = some (.int .u16 t1) := (HPR.out.own.cellAt (s.data.length - 1) (by omega)).trans (by rw [List.getElem?_map, ht1]; rfl)
  have bt1 : 0 ≤ t1 ∧ t1 < 65536 := HOK.out.wf.data t1 (List.mem_of_getElem? ht1)
  obtain ⟨b10, b11⟩ := bt1
  have HT1' : Hid (topF s.data 0 = t1) := top_at (i := 0) (by rw [Nat.sub_zero]; exact ht1) (by omega)
  have HTT1 := Lib.hid ht1
  have i1 : ((s.data.length : Int) - 1).toNat = s.data.length - 1 := by omega
  have i2 : 0 ≤ (s.data.length : Int) - 1 := by omega
  have i3 : (s.data.length : Int) - 1 < s.data.length := by omega
  clear ht1
  obtain ⟨t2, ht2⟩ : ∃ t, s.data[s.data.length - 2]? = some t := ⟨_, List.getElem?_eq_getElem (by omega)⟩
  have kt2 : w2.cell? ⟨gd, s.data.length - 2, none⟩ = some (.int .u16 t2) := (HPR.out.own.cellAt (s.data.length - 2) (by omega)).trans (by rw [List.getElem?_map, ht2]; rfl)
  have bt2 : 0 ≤ t2 ∧ t2 < 65536 := HOK.out.wf.data t2 (List.mem_of_getElem? ht2)
  obtain ⟨b20, b21⟩ := bt2
  have HT2' : Hid (topF s.data 1 = t2) := top_at (i := 1) (by rw [show s.data.length - 1 - 1 = s.data.length - 2 from by omega]; exact ht2) (by omega)
  have HTT2 := Lib.hid ht2
  have j1 : ((s.data.length : Int) - 1 - 1).toNat = s.data.length - 2 := by omega
  have j2 : 0 ≤ (s.data.length : Int) - 1 - 1 := by omega
  have j3 : (s.data.length : Int) - 1 - 1 < s.data.length := by omega
  clear ht2
  have zt1 := HPR.out.own.frozenAt (s.data.length - 1)
  have zt2 := HPR.out.own.frozenAt (s.data.length - 2)
  have hq1 : ¬ s.data.length - 1 = s.data.length - 2 := by omega
  have hq2 : ¬ s.data.length - 2 = s.data.length - 1 := by omega
  go_upto_region 63 with (fail)
  refine wp_world (fun wx => Mid bad w wx { s with at_ := (p : Int) + 1 } (cs.setIfInBounds 1 (.int .i64 ((p : Int) + 1))) (.slice (some ⟨gd, 0, none⟩) s.data.length c) ((s.data.set (s.data.length - 2) t1).set (s.data.length - 1) t2)) (by have h1 := HPR.out.store (s.data.length - 2) t1; have h2 := Pre.store (l := s.data.set (s.data.length - 2) t1) (by rw [List.length_set]; exact h1) (s.data.length - 1) t2; rw [List.length_set] at h2; exact h2.mid) ?_
  intro wf hm
  have HHALF : Hid (Half ((s.data.set (s.data.length - 2) t1).set (s.data.length - 1) t2)) := (by show Half _; rw [set_two (by omega)]; exact half_append (fun x hx => HOK.out.wf.data x (List.mem_of_mem_take hx)) (half_cons ⟨by omega, by omega⟩ (half_cons ⟨by omega, by omega⟩ half_nil)))
  have HEQ : Hid ({ { s with at_ := (p : Int) + 1 } with data := ((s.data.set (s.data.length - 2) t1).set (s.data.length - 1) t2) } = r) := by
    show _ = r
    rw [← HR.out, stepF_go HZ.out HG.out.op]
    exact st_eq rfl (by show (p : Int) + 1 = s.at_ + 1 + sizeOp 4; rw [HP1.out]; have : sizeOp 4 = 0 := rfl; omega) (by show (s.data.set (s.data.length - 2) t1).set (s.data.length - 1) t2 = s.data.take (s.data.length - 2) ++ [topF s.data 0, topF s.data 1]; rw [set_two (by omega), HT1'.out, HT2'.out]) rfl rfl rfl rfl rfl
  obtain ⟨A9, c9, e9, _⟩ := hm.is.data
  have k9 := (blk_cell hm.b1 2).trans e9
  have z9 := blk_frozen hm.b1 2
  have HB1 := Lib.hid (heap_set_bm hm.b1 2 (.slice (some ⟨gd, 0, none⟩) s.data.length c))
  have HB2 : Hid ((wf.setCell ⟨w.heap.size, 2, none⟩ (.slice (some ⟨gd, 0, none⟩) s.data.length c)).heap[w.heap.size + 1]? = some (.cells zeroSt 28 (0, 0))) := (set_other (by omega)).trans hm.b2
  have HST := Lib.hid (data_set hm.is (own_agr HBAD.out hm.own (fun _ _ _ _ _ => rfl)) HHALF.out)
  have HSB := Lib.hid HST.out.size
  have HO := Lib.hid (st_one HST.out)
  have HFIN := Lib.hid (hm.fin HBAD.out HHALF.out HEQ.out)
  clear hm e9
  obtain ⟨cz, hcz⟩ : ∃ cz, cz = (cs.setIfInBounds 1 (.int .i64 ((p : Int) + 1))).setIfInBounds 2 (.slice (some ⟨gd, 0, none⟩) s.data.length c) := ⟨_, rfl⟩
  rw [← hcz] at HB1 HSB HO HFIN
  clear hcz HST
  go_wp2_with (first | refine wpList_load_row rfl 28 _ rfl w.heap.size rfl 28 cz (0, 0) _ HB1.out Tryd.underlying28 rfl (by rw [HSB.out]; exact size28) ?_ | refine wpList_store_row rfl 28 _ _ rfl (w.heap.size + 1) cz rfl rfl 28 zeroSt HB2.out (by rw [HSB.out]; exact size28) (by rw [HSB.out]; rfl) HO.out ?_)
  refine bodyPost_ret (results_one rfl _ _ (w.heap.size + 1) 28 cz (0, 0) _ rfl ?_ Tryd.underlying28 rfl (by rw [HSB.out]; exact size28)) rfl HFIN.out
  exact setRow_heap _ _ _ _ _ _ HB2.out
theorem stepR_5 (bad : Nat → Prop) (cs : Array Value) (s : St) (w : World) (hbad : ∀ g, bad g → g < w.heap.size) (h : StAv bad w cs s) (hok : OkSt s) (hz : stopOf s = 0) (hg : GoesOn s 5) : Calls Tryd.prog 26 #[.agg cs] w (SpRet bad w (stepF s)) := by
  have HH := Lib.hid h
  have HOK := Lib.hid hok
  have HS := Lib.hid h.st.size
  have HG := Lib.hid hg
  have HBAD := Lib.hid hbad
  have HZ := Lib.hid hz
  obtain ⟨r, hr⟩ : ∃ r, stepF s = r := ⟨_, rfl⟩
  rw [hr]
  have HR := Lib.hid hr
  have il := hok.il
  have dl := hok.dl
  have rl := hok.rl
  have ol := hok.ol
  have inl := hok.inl
  have a0 := hok.at0
  have a1 := hok.at1
  obtain ⟨p, hp⟩ : ∃ p : Nat, s.at_ = p := ⟨s.at_.toNat, by omega⟩
  have HP1 := Lib.hid hp
  have hpl : p < s.image.length := by have := hg.lt; omega
  have hdn : 2 ≤ s.data.length := by have := hg.dl; rw [show takesOf 5 = 2 from rfl] at this; omega
  rw [hp] at a0 a1
  obtain ⟨A0, c0, e0, _, _, _, s0⟩ := h.st.image
  obtain ⟨A2, c2, e2, _, _, q2, s2⟩ := h.st.data
  obtain ⟨b, o, y, rfl, hy, ky⟩ := s0.at2 hpl
  have hyk : y = 5 := by have := hg.op; unfold opOf at this; rw [hp] at this; simp only [Int.toNat_natCast] at this; rw [hy.out] at this; exact this
  subst hyk
  have hbB := World.block_lt_of_cell? w _ ky
  simp only at hbB
  have hne : ¬ b = w.heap.size := by omega
  have hne' : ¬ w.heap.size = b := by omega
  have HE0 := Lib.hid e0
  have HE2 := Lib.hid e2
  have HS2 := Lib.hid s2
  have HKY := Lib.hid ky
  have hin : inB 5 16 18 = false := rfl
  clear h hok hz hr hp hg hbad e0 e2 s0 s2 ky
  obtain ⟨i0, hi, hz0, hz1, hz2⟩ := info_parts info25
  have HI := Lib.hid hi
  have HZ0 := Lib.hid hz0
  have HZ1 := Lib.hid hz1
  have HZ2 := Lib.hid hz2
  clear hi hz0 hz1 hz2
  go_enter Tryd.func26, Tryd.ntmps26
  go_upto_region 0 with (fail)
  go_cut [1, 2] (fun s1 s2 wx => s1 = .pointer (some ⟨w.heap.size, 0, none⟩) ∧ s2 = .pointer (some ⟨w.heap.size + 1, 0, none⟩) ∧ Two2 w wx cs)
  case first =>
    go_wp2_with fail
    go_meet
    exact ⟨rfl, rfl, zeroSt_lit ▸ two2_mk w cs⟩
  obtain ⟨rfl, rfl, ht⟩ := hcut
  have HT := Lib.hid ht
  have HC := Lib.hid (stopped_c cs s wc (HH.out.st.ext ht.x) HOK.out)
  clear ht
  go_upto_region 5 with (first | refine wpList_load_row rfl 28 _ rfl w.heap.size rfl 28 cs (0, 0) _ HT.out.b1 Tryd.underlying28 rfl (by rw [HS.out]; exact size28) ?_ | (go_at_call 31; refine HC.out.mono ?_; rw [HZ.out]; rintro e w1 ⟨rfl, hx1⟩; have HT1 := Lib.hid (HT.out.ext hx1); clear hx1))
  have HP0 := Lib.hid (two2_p0 HH.out HT1.out)
  have k0 : w1.cell? ⟨w.heap.size, 0, none⟩ = some (.slice (some ⟨b, o, none⟩) s.image.length c0) := (blk_cell HT1.out.b1 0).trans HE0.out
  have k1 : w1.cell? ⟨w.heap.size, 1, none⟩ = some (.int .i64 (p : Int)) := (blk_cell HT1.out.b1 1).trans (by rw [HH.out.st.at_, HP1.out])
  have z1 := blk_frozen HT1.out.b1 1
  have ky := HT1.out.x.cell HKY.out
  go_upto_region 14 with ((go_at_call 16; refine (In_c _ _ _ _).mono ?_; rintro e w' ⟨rfl, rfl⟩))
  go_cut [6] (fun s6 wx => s6 = .slice none 0 0 ∧ P0 bad w wx { s with at_ := (p : Int) + 1 } (cs.setIfInBounds 1 (.int .i64 ((p : Int) + 1))))
  case first =>
    go_wp2_with fail
    go_meet
    exact ⟨rfl, HP0.out.set (fun F h => at_set (n := (p : Int) + 1) h ⟨by omega, by omega⟩)⟩
  obtain ⟨rfl, hp0⟩ := hcut
  obtain ⟨w0, rfl⟩ : ∃ w0 : World, w0 = wc := ⟨_, rfl⟩
  have hlt0 := hp0.lt
  have k2 : w0.cell? ⟨w.heap.size, 2, none⟩ = some (.slice A2 s.data.length c2) := (blk_cell hp0.b1 2).trans (by rw [keyne (by decide)]; exact HE2.out)
  have HSL := Lib.hid (s2_ext HS2.out hp0.x)
  have HP2 := Lib.hid hp0
  clear hp0 k0 k1 z1 ky
  go_upto_region 16 with (at_builtin; refine wpList_append_sl rfl _ _ 23 rfl (w.heap.size + 2) 25 i0 (.int .u16 0) 1 2 Tryd.underlying23 HI.out HZ0.out HZ1.out HZ2.out rfl (by decide) _ 0 [] rfl (World.ownsRow_nil _ _ _ _) A2 s.data.length c2 (s.data.map (Value.int .u16)) rfl HSL.out (by simp) ints_one (by unfold maxLen; omega) (by omega) (by omega) ?_; intro v w2 ho hgr _hat; simp only [Nat.zero_add, List.nil_append] at ho; have HPR := Lib.hid (HP2.out.row ho hgr); obtain ⟨A, c, rfl, hnc, hcm, hA, hsl⟩ := own_sl ho; clear hgr ho _hat)
  clear k2
  have hlt2 := HPR.out.lt
  obtain ⟨gd, rfl, hgd⟩ := own_head HPR.out.own (by omega)
  obtain ⟨t1, ht1⟩ : ∃ t, s.data[s.data.length - 1]? = some t := ⟨_, List.getElem?_eq_getElem (by omega)⟩
  have kt1 : w2.cell? ⟨gd, s.data.length - 1, none⟩ = some (.int .u16 t1) := (HPR.out.own.cellAt (s.data.length - 1) (by omega)).trans (by rw [List.getElem?_map, ht1]; rfl)
  have bt1 : 0 ≤ t1 ∧ t1 < 65536 := HOK.out.wf.data t1 (List.mem_of_getElem? ht1)
  obtain ⟨b10, b11⟩ := bt1
  have HT1' : Hid (topF s.data 0 = t1) := top_at (i := 0) (by rw [Nat.sub_zero]; exact ht1) (by omega)
  have HTT1 := Lib.hid ht1
  have i1 : ((s.data.length : Int) - 1).toNat = s.data.length - 1 := by omega
  have i2 : 0 ≤ (s.data.length : Int) - 1 := by omega
  have i3 : (s.data.length : Int) - 1 < s.data.length := by omega
  clear ht1
  obtain ⟨t2, ht2⟩ : ∃ t, s.data[s.data.length - 2]? = some t := ⟨_, List.getElem?_eq_getElem (by omega)⟩
  have kt2 : w2.cell? ⟨gd, s.data.length - 2, none⟩ = some (.int .u16 t2) := (HPR.out.own.cellAt (s.data.length - 2) (by omega)).trans (by rw [List.getElem?_map, ht2]; rfl)
  have bt2 : 0 ≤ t2 ∧ t2 < 65536 := HOK.out.wf.data t2 (List.mem_of_getElem? ht2)
  obtain ⟨b20, b21⟩ := bt2
  have HT2' : Hid (topF s.data 1 = t2) := top_at (i := 1) (by rw [show s.data.length - 1 - 1 = s.data.length - 2 from by omega]; exact ht2) (by omega)
  have HTT2 := Lib.hid ht2
  have j1 : ((s.data.length : Int) - 1 - 1).toNat = s.data.length - 2 := by omega
  have j2 : 0 ≤ (s.data.length : Int) - 1 - 1 := by omega
  have j3 : (s.data.length : Int) - 1 - 1 < s.data.length := by omega
  clear ht2
  go_upto_region 63 with (at_builtin; refine wpList_append_sl rfl _ _ 23 rfl (w.heap.size + 2) 25 i0 (.int .u16 0) 1 2 Tryd.underlying23 HI.out HZ0.out HZ1.out HZ2.out rfl (by decide) _ s.data.length ((s.data).map (Value.int .u16)) rfl (HPR.out.own.alloc _) (some ⟨w2.heap.size, 0, none⟩) 1 1 [.int .u16 t2] rfl (slc_new w2 [.int .u16 t2] 25) rfl (by simp [Value.oneCell']) (by unfold maxLen; omega) (by omega) (by simp; omega) ?_; intro v3 w3 ho3 hg3 _h3; have HP3 := Lib.hid ((HPR.out.ext ((Ext.refl w2).alloc _)).row (l' := s.data ++ [t2]) (by rw [List.length_append, List.map_append]; exact ho3) hg3); obtain ⟨A3, c3, rfl, _, _, _, _⟩ := own_sl ho3; clear ho3 hg3 _h3)
  refine wp_world (fun wx => Mid bad w wx { s with at_ := (p : Int) + 1 } (cs.setIfInBounds 1 (.int .i64 ((p : Int) + 1))) (.slice A3 (s.data.length + 1) c3) (s.data ++ [t2])) HP3.out.mid ?_
  intro wf hm
  have HHALF : Hid (Half (s.data ++ [t2])) := half_append HOK.out.wf.data (half_cons ⟨by omega, by omega⟩ half_nil)
  have HEQ : Hid ({ { s with at_ := (p : Int) + 1 } with data := (s.data ++ [t2]) } = r) := by
    show _ = r
    rw [← HR.out, stepF_go HZ.out HG.out.op]
    exact st_eq rfl (by show (p : Int) + 1 = s.at_ + 1 + sizeOp 5; rw [HP1.out]; have : sizeOp 5 = 0 := rfl; omega) (by show s.data ++ [t2] = s.data.take (s.data.length - 2) ++ [topF s.data 1, topF s.data 0, topF s.data 1]; rw [HT1'.out, HT2'.out]; have := take_top2 HTT1.out HTT2.out (by omega); rw [show ([t2, t1, t2] : List Int) = [t2, t1] ++ [t2] from rfl, ← List.append_assoc, this]) rfl rfl rfl rfl rfl
  obtain ⟨A9, c9, e9, _⟩ := hm.is.data
  have k9 := (blk_cell hm.b1 2).trans e9
  have z9 := blk_frozen hm.b1 2
  have HB1 := Lib.hid (heap_set_bm hm.b1 2 (.slice A3 (s.data.length + 1) c3))
  have HB2 : Hid ((wf.setCell ⟨w.heap.size, 2, none⟩ (.slice A3 (s.data.length + 1) c3)).heap[w.heap.size + 1]? = some (.cells zeroSt 28 (0, 0))) := (set_other (by omega)).trans hm.b2
  have HST := Lib.hid (data_set hm.is (own_agr HBAD.out hm.own (fun _ _ _ _ _ => rfl)) HHALF.out)
  have HSB := Lib.hid HST.out.size
  have HO := Lib.hid (st_one HST.out)
  have HFIN := Lib.hid (hm.fin HBAD.out HHALF.out HEQ.out)
  clear hm e9
  obtain ⟨cz, hcz⟩ : ∃ cz, cz = (cs.setIfInBounds 1 (.int .i64 ((p : Int) + 1))).setIfInBounds 2 (.slice A3 (s.data.length + 1) c3) := ⟨_, rfl⟩
  rw [← hcz] at HB1 HSB HO HFIN
  clear hcz HST
  go_wp2_with (first | refine wpList_load_row rfl 28 _ rfl w.heap.size rfl 28 cz (0, 0) _ HB1.out Tryd.underlying28 rfl (by rw [HSB.out]; exact size28) ?_ | refine wpList_store_row rfl 28 _ _ rfl (w.heap.size + 1) cz rfl rfl 28 zeroSt HB2.out (by rw [HSB.out]; exact size28) (by rw [HSB.out]; rfl) HO.out ?_)
  refine bodyPost_ret (results_one rfl _ _ (w.heap.size + 1) 28 cz (0, 0) _ rfl ?_ Tryd.underlying28 rfl (by rw [HSB.out]; exact size28)) rfl HFIN.out
  exact setRow_heap _ _ _ _ _ _ HB2.out
theorem stepR_6 (bad : Nat → Prop) (cs : Array Value) (s : St) (w : World) (hbad : ∀ g, bad g → g < w.heap.size) (h : StAv bad w cs s) (hok : OkSt s) (hz : stopOf s = 0) (x : Int) (x6 : 6 ≤ x) (x15 : x ≤ 15) (hg : GoesOn s x) : Calls Tryd.prog 26 #[.agg cs] w (SpRet bad w (stepF s)) := by
  have HH := Lib.hid h
  have HOK := Lib.hid hok
  have HS := Lib.hid h.st.size
  have HG := Lib.hid hg
  have HBAD := Lib.hid hbad
  have HZ := Lib.hid hz
  obtain ⟨r, hr⟩ : ∃ r, stepF s = r := ⟨_, rfl⟩
  rw [hr]
  have HR := Lib.hid hr
  have il := hok.il
  have dl := hok.dl
  have rl := hok.rl
  have ol := hok.ol
  have inl := hok.inl
  have a0 := hok.at0
  have a1 := hok.at1
  obtain ⟨p, hp⟩ : ∃ p : Nat, s.at_ = p := ⟨s.at_.toNat, by omega⟩
  have HP1 := Lib.hid hp
  have hpl : p < s.image.length := by have := hg.lt; omega
  have hdn : 2 ≤ s.data.length := by have := hg.dl; rw [takes_mid ⟨x6, x15⟩] at this; omega
  rw [hp] at a0 a1
  obtain ⟨A0, c0, e0, _, _, _, s0⟩ := h.st.image
  obtain ⟨A2, c2, e2, _, _, q2, s2⟩ := h.st.data
  obtain ⟨b, o, y, rfl, hy, ky⟩ := s0.at2 hpl
  have hyk : y = x := by have := hg.op; unfold opOf at this; rw [hp] at this; simp only [Int.toNat_natCast] at this; rw [hy.out] at this; exact this
  subst hyk
  have hbB := World.block_lt_of_cell? w _ ky
  simp only at hbB
  have hne : ¬ b = w.heap.size := by omega
  have hne' : ¬ w.heap.size = b := by omega
  have HE0 := Lib.hid e0
  have HE2 := Lib.hid e2
  have HS2 := Lib.hid s2
  have HKY := Lib.hid ky
  have hin : inB y 16 18 = false := by unfold inB; simp; omega
  clear h hok hz hr hp hg hbad e0 e2 s0 s2 ky
  obtain ⟨i0, hi, hz0, hz1, hz2⟩ := info_parts info25
  have HI := Lib.hid hi
  have HZ0 := Lib.hid hz0
  have HZ1 := Lib.hid hz1
  have HZ2 := Lib.hid hz2
  clear hi hz0 hz1 hz2
  go_enter Tryd.func26, Tryd.ntmps26
  go_upto_region 0 with (fail)
  go_cut [1, 2] (fun s1 s2 wx => s1 = .pointer (some ⟨w.heap.size, 0, none⟩) ∧ s2 = .pointer (some ⟨w.heap.size + 1, 0, none⟩) ∧ Two2 w wx cs)
  case first =>
    go_wp2_with fail
    go_meet
    exact ⟨rfl, rfl, zeroSt_lit ▸ two2_mk w cs⟩
  obtain ⟨rfl, rfl, ht⟩ := hcut
  have HT := Lib.hid ht
  have HC := Lib.hid (stopped_c cs s wc (HH.out.st.ext ht.x) HOK.out)
  clear ht
  go_upto_region 5 with (first | refine wpList_load_row rfl 28 _ rfl w.heap.size rfl 28 cs (0, 0) _ HT.out.b1 Tryd.underlying28 rfl (by rw [HS.out]; exact size28) ?_ | (go_at_call 31; refine HC.out.mono ?_; rw [HZ.out]; rintro e w1 ⟨rfl, hx1⟩; have HT1 := Lib.hid (HT.out.ext hx1); clear hx1))
  have HP0 := Lib.hid (two2_p0 HH.out HT1.out)
  have k0 : w1.cell? ⟨w.heap.size, 0, none⟩ = some (.slice (some ⟨b, o, none⟩) s.image.length c0) := (blk_cell HT1.out.b1 0).trans HE0.out
  have k1 : w1.cell? ⟨w.heap.size, 1, none⟩ = some (.int .i64 (p : Int)) := (blk_cell HT1.out.b1 1).trans (by rw [HH.out.st.at_, HP1.out])
  have z1 := blk_frozen HT1.out.b1 1
  have ky := HT1.out.x.cell HKY.out
  go_upto_region 14 with ((go_at_call 16; refine (In_c _ _ _ _).mono ?_; rintro e w' ⟨rfl, rfl⟩))
  go_cut [6] (fun s6 wx => s6 = .slice none 0 0 ∧ P0 bad w wx { s with at_ := (p : Int) + 1 } (cs.setIfInBounds 1 (.int .i64 ((p : Int) + 1))))
  case first =>
    go_wp2_with fail
    go_meet
    exact ⟨rfl, HP0.out.set (fun F h => at_set (n := (p : Int) + 1) h ⟨by omega, by omega⟩)⟩
  obtain ⟨rfl, hp0⟩ := hcut
  obtain ⟨w0, rfl⟩ : ∃ w0 : World, w0 = wc := ⟨_, rfl⟩
  have hlt0 := hp0.lt
  have k2 : w0.cell? ⟨w.heap.size, 2, none⟩ = some (.slice A2 s.data.length c2) := (blk_cell hp0.b1 2).trans (by rw [keyne (by decide)]; exact HE2.out)
  have HSL := Lib.hid (s2_ext HS2.out hp0.x)
  have HP2 := Lib.hid hp0
  clear hp0 k0 k1 z1 ky
  go_upto_region 16 with (at_builtin; refine wpList_append_sl rfl _ _ 23 rfl (w.heap.size + 2) 25 i0 (.int .u16 0) 1 2 Tryd.underlying23 HI.out HZ0.out HZ1.out HZ2.out rfl (by decide) _ 0 [] rfl (World.ownsRow_nil _ _ _ _) A2 s.data.length c2 (s.data.map (Value.int .u16)) rfl HSL.out (by simp) ints_one (by unfold maxLen; omega) (by omega) (by omega) ?_; intro v w2 ho hgr _hat; simp only [Nat.zero_add, List.nil_append] at ho; have HPR := Lib.hid (HP2.out.row ho hgr); obtain ⟨A, c, rfl, hnc, hcm, hA, hsl⟩ := own_sl ho; clear hgr ho _hat)
  clear k2
  have hlt2 := HPR.out.lt
  obtain ⟨gd, rfl, hgd⟩ := own_head HPR.out.own (by omega)
  obtain ⟨t1, ht1⟩ : ∃ t, s.data[s.data.length - 1]? = some t := ⟨_, List.getElem?_eq_getElem (by omega)⟩
  have kt1 : w2.cell? ⟨gd, s.data.length - 1, none⟩ = some (.int .u16 t1) := (HPR.out.own.cellAt (s.data.length - 1) (by omega)).trans (by rw [List.getElem?_map, ht1]; rfl)
  have bt1 : 0 ≤ t1 ∧ t1 < 65536 := HOK.out.wf.data t1 (List.mem_of_getElem? ht1)
  obtain ⟨b10, b11⟩ := bt1
  have HT1' : Hid (topF s.data 0 = t1) := top_at (i := 0) (by rw [Nat.sub_zero]; exact ht1) (by omega)
  have HTT1 := Lib.hid ht1
  have i1 : ((s.data.length : Int) - 1).toNat = s.data.length - 1 := by omega
  have i2 : 0 ≤ (s.data.length : Int) - 1 := by omega
  have i3 : (s.data.length : Int) - 1 < s.data.length := by omega
  clear ht1
  obtain ⟨t2, ht2⟩ : ∃ t, s.data[s.data.length - 2]? = some t := ⟨_, List.getElem?_eq_getElem (by omega)⟩
  have kt2 : w2.cell? ⟨gd, s.data.length - 2, none⟩ = some (.int .u16 t2) := (HPR.out.own.cellAt (s.data.length - 2) (by omega)).trans (by rw [List.getElem?_map, ht2]; rfl)
  have bt2 : 0 ≤ t2 ∧ t2 < 65536 := HOK.out.wf.data t2 (List.mem_of_getElem? ht2)
  obtain ⟨b20, b21⟩ := bt2
  have HT2' : Hid (topF s.data 1 = t2) := top_at (i := 1) (by rw [show s.data.length - 1 - 1 = s.data.length - 2 from by omega]; exact ht2) (by omega)
  have HTT2 := Lib.hid ht2
  have j1 : ((s.data.length : Int) - 1 - 1).toNat = s.data.length - 2 := by omega
  have j2 : 0 ≤ (s.data.length : Int) - 1 - 1 := by omega
  have j3 : (s.data.length : Int) - 1 - 1 < s.data.length := by omega
  clear ht2
  obtain ⟨n1, rfl⟩ : ∃ n : Nat, t1 = n := ⟨t1.toNat, by omega⟩
  obtain ⟨n2, rfl⟩ : ∃ n : Nat, t2 = n := ⟨t2.toNat, by omega⟩
  have hdz : y = 9 ∨ y = 10 → n1 ≠ 0 := by intro hq; have := HG.out.dv hq; rw [HT1'.out] at this; omega
  have hlc := left_comp (op := y) (a := n2) (b := n1) ⟨x6, x15⟩ (by omega) (by omega) hdz
  have HQ : Hid (∀ j, Calls Tryd.prog 32 #[.int .i64 y, .int .i64 (n2 : Int), .int .i64 (n1 : Int)] (w2.drewN j) fun e w' => e = .returned (.int .i64 (leftF y n2 n1)) ∧ ∃ m, w' = w2.drewN m) := fun j => (left16_c y n2 n1 (w2.drewN j) ⟨x6, x15⟩ (by omega) (by omega) hdz).mono fun e w' ⟨he, hw⟩ => ⟨he, j, hw.symm⟩
  obtain ⟨L, hL⟩ : ∃ L, leftF y n2 n1 = L := ⟨_, rfl⟩
  rw [hL] at HQ hlc
  obtain ⟨l0, l1, l2⟩ := hlc
  have HL1 := Lib.hid l1
  have HL2 := Lib.hid l2
  clear l2
  have g1 : IntKind.i64.wrap ((s.data.length : Int) - 1 - 1) = (s.data.length : Int) - 1 - 1 := IntWalk.i64_in _ (by omega)
  have g2 : IntKind.i64.wrap (n1 : Int) = n1 := IntWalk.i64_in _ (by omega)
  have g3 : IntKind.i64.wrap (n2 : Int) = n2 := IntWalk.i64_in _ (by omega)
  have m0 : (y == 0) = false := by simp; omega
  have m1 : (y == 1) = false := by simp; omega
  have m2 : (y == 2) = false := by simp; omega
  have m3 : (y == 3) = false := by simp; omega
  have m4 : (y == 4) = false := by simp; omega
  have m5 : (y == 5) = false := by simp; omega
  clear hdz hL l1
  go_upto_region 31 with (fail)
  have m7 : y < 16 := by omega
  have m6 : decide (y < 16) = true := by simp; omega
  have X6 := Lib.hid x6
  have X15 := Lib.hid x15
  have G1 := Lib.hid g1
  have G2 := Lib.hid g2
  have G3 := Lib.hid g3
  clear m0 m1 m2 m3 m4 m5 x15 x6 g1 g2 g3
  go_upto_region 32 with (fail)
  have g1 := G1.out
  have g2 := G2.out
  have g3 := G3.out
  go_quiet ((go_at_call 32; (with_reducible exact HQ.out _)))
  clear g1 g2 g3
  go_upto_region 33 with (fail)
  refine wp_world (fun wx => Pre bad w wx { s with at_ := (p : Int) + 1 } (cs.setIfInBounds 1 (.int .i64 ((p : Int) + 1))) (.slice (some ⟨gd, 0, none⟩) s.data.length c) s.data) (HPR.out.ext ((Ext.refl _).drewN _)) ?_
  intro w5 hp5
  have HP5 := Lib.hid (hp5.cut (m := s.data.length - 2) (by omega))
  have hlt5 := hp5.lt
  have hlen : (s.data.take (s.data.length - 2)).length = s.data.length - 2 := by rw [List.length_take]; omega
  have HLEN := Lib.hid hlen
  have HOWN : Hid (w5.ownsRow (w.heap.size + 2) 25 1 (.slice (some ⟨gd, 0, none⟩) (s.data.length - 2) c) (s.data.length - 2) ((s.data.take (s.data.length - 2)).map (Value.int .u16))) := by
    have := HP5.out.own
    rw [hlen] at this
    exact this
  have hs2 : ∀ W : World, (Instr.slice 23 (.slice (some ⟨gd, 0, none⟩) s.data.length c) none (some (.int .i64 ((s.data.length : Int) - 1 - 1))) none).run Tryd.prog W = .ok (.slice (some ⟨gd, 0, none⟩) (s.data.length - 2) c) W := fun W => by have := run_slice_to (P := Tryd.prog) W 23 25 i0 Tryd.underlying23 HI.out (some ⟨gd, 0, none⟩) s.data.length c (s.data.length - 2) .i64 (by omega); rw [show ((s.data.length - 2 : Nat) : Int) = (s.data.length : Int) - 1 - 1 from by omega] at this; exact this
  have hw1 : IntKind.u16.wrap (L % 65536) = L % 65536 := wrap_u16_in (by omega) (by omega)
  have hw2 : IntKind.i64.wrap (L % 65536) = L % 65536 := IntWalk.i64_in _ (by omega)
  clear hp5 hlen kt1 kt2 HPR
  go_upto_region 63 with (at_builtin; refine wpList_append_sl rfl _ _ 23 rfl (w.heap.size + 2) 25 i0 (.int .u16 0) 1 2 Tryd.underlying23 HI.out HZ0.out HZ1.out HZ2.out rfl (by decide) _ (s.data.length - 2) ((s.data.take (s.data.length - 2)).map (Value.int .u16)) rfl (HOWN.out.alloc _) (some ⟨w5.heap.size, 0, none⟩) 1 1 [.int .u16 (L % 65536)] rfl (slc_new w5 [.int .u16 (L % 65536)] 25) rfl (by simp [Value.oneCell']) (by unfold maxLen; omega) (by omega) (by simp; omega) ?_; intro v3 w3 ho3 hg3 _h3; have HP3 := Lib.hid ((HP5.out.ext ((Ext.refl w5).alloc _)).row (l' := s.data.take (s.data.length - 2) ++ [(L % 65536)]) (by rw [List.length_append, List.map_append, HLEN.out]; exact ho3) hg3); obtain ⟨A3, c3, rfl, _, _, _, _⟩ := own_sl ho3; clear ho3 hg3 _h3)
  refine wp_world (fun wx => Mid bad w wx { s with at_ := (p : Int) + 1 } (cs.setIfInBounds 1 (.int .i64 ((p : Int) + 1))) (.slice A3 (s.data.length - 2 + 1) c3) (s.data.take (s.data.length - 2) ++ [L % 65536])) HP3.out.mid ?_
  intro wf hm
  have HHALF : Hid (Half (s.data.take (s.data.length - 2) ++ [L % 65536])) := half_append (fun x hx => HOK.out.wf.data x (List.mem_of_mem_take hx)) (half_cons ⟨by omega, by omega⟩ half_nil)
  have HEQ : Hid ({ { s with at_ := (p : Int) + 1 } with data := (s.data.take (s.data.length - 2) ++ [L % 65536]) } = r) := by
    show _ = r
    rw [← HR.out, stepF_go HZ.out HG.out.op]
    have x6 := X6.out
    have x15 := X15.out
    have e6 : effF { s with at_ := s.at_ + 1 + sizeOp y, data := s.data.take (s.data.length - (takesOf y).toNat) } y (operandF s) (topF s.data 1) (topF s.data 0) = ([compF y (topF s.data 1) (topF s.data 0)], { s with at_ := s.at_ + 1 + sizeOp y, data := s.data.take (s.data.length - (takesOf y).toNat) }) := by
      unfold effF
      rw [if_neg (by omega), if_neg (by omega), if_neg (by omega), if_neg (by omega), if_neg (by omega), if_neg (by omega), if_neg (by omega), if_neg (by omega), if_neg (by omega), if_neg (by omega), if_neg (by omega), if_neg (by omega), if_neg (by omega), if_neg (by omega)]
    have e7 : sizeOp y = 0 := by unfold sizeOp; rw [if_neg (by omega), if_neg (by omega)]
    have e8 : takesOf y = 2 := by
      obtain rfl | rfl | rfl | rfl | rfl | rfl | rfl | rfl | rfl | rfl : y = 6 ∨ y = 7 ∨ y = 8 ∨ y = 9 ∨ y = 10 ∨ y = 11 ∨ y = 12 ∨ y = 13 ∨ y = 14 ∨ y = 15 := by omega
      all_goals rfl
    rw [e6, HT1'.out, HT2'.out, ← HL1.out, e7, e8, HP1.out]
    exact st_eq rfl (by show (p : Int) + 1 = (p : Int) + 1 + 0; omega) rfl rfl rfl rfl rfl rfl
  obtain ⟨A9, c9, e9, _⟩ := hm.is.data
  have k9 := (blk_cell hm.b1 2).trans e9
  have z9 := blk_frozen hm.b1 2
  have HB1 := Lib.hid (heap_set_bm hm.b1 2 (.slice A3 (s.data.length - 2 + 1) c3))
  have HB2 : Hid ((wf.setCell ⟨w.heap.size, 2, none⟩ (.slice A3 (s.data.length - 2 + 1) c3)).heap[w.heap.size + 1]? = some (.cells zeroSt 28 (0, 0))) := (set_other (by omega)).trans hm.b2
  have HST := Lib.hid (data_set hm.is (own_agr HBAD.out hm.own (fun _ _ _ _ _ => rfl)) HHALF.out)
  have HSB := Lib.hid HST.out.size
  have HO := Lib.hid (st_one HST.out)
  have HFIN := Lib.hid (hm.fin HBAD.out HHALF.out HEQ.out)
  clear hm e9
  obtain ⟨cz, hcz⟩ : ∃ cz, cz = (cs.setIfInBounds 1 (.int .i64 ((p : Int) + 1))).setIfInBounds 2 (.slice A3 (s.data.length - 2 + 1) c3) := ⟨_, rfl⟩
  rw [← hcz] at HB1 HSB HO HFIN
  clear hcz HST
  go_wp2_with (first | refine wpList_load_row rfl 28 _ rfl w.heap.size rfl 28 cz (0, 0) _ HB1.out Tryd.underlying28 rfl (by rw [HSB.out]; exact size28) ?_ | refine wpList_store_row rfl 28 _ _ rfl (w.heap.size + 1) cz rfl rfl 28 zeroSt HB2.out (by rw [HSB.out]; exact size28) (by rw [HSB.out]; rfl) HO.out ?_)
  refine bodyPost_ret (results_one rfl _ _ (w.heap.size + 1) 28 cz (0, 0) _ rfl ?_ Tryd.underlying28 rfl (by rw [HSB.out]; exact size28)) rfl HFIN.out
  exact setRow_heap _ _ _ _ _ _ HB2.out
theorem stepR_16 (bad : Nat → Prop) (cs : Array Value) (s : St) (w : World) (hbad : ∀ g, bad g → g < w.heap.size) (h : StAv bad w cs s) (hok : OkSt s) (hz : stopOf s = 0) (hg : GoesOn s 16) : Calls Tryd.prog 26 #[.agg cs] w (SpRet bad w (stepF s)) := by
  have HH := Lib.hid h
  have HOK := Lib.hid hok
  have HS := Lib.hid h.st.size
  have HG := Lib.hid hg
  have HBAD := Lib.hid hbad
  have HZ := Lib.hid hz
  obtain ⟨r, hr⟩ : ∃ r, stepF s = r := ⟨_, rfl⟩
  rw [hr]
  have HR := Lib.hid hr
  have il := hok.il
  have dl := hok.dl
  have rl := hok.rl
  have ol := hok.ol
  have inl := hok.inl
  have a0 := hok.at0
  have a1 := hok.at1
  obtain ⟨p, hp⟩ : ∃ p : Nat, s.at_ = p := ⟨s.at_.toNat, by omega⟩
  have HP1 := Lib.hid hp
  have hpl : p < s.image.length := by have := hg.lt; omega
  have hpz : p + 1 < s.image.length := by have := hg.img; rw [show sizeOp 16 = 1 from rfl] at this; omega
  rw [hp] at a0 a1
  obtain ⟨A0, c0, e0, _, _, _, s0⟩ := h.st.image
  obtain ⟨A2, c2, e2, _, _, q2, s2⟩ := h.st.data
  obtain ⟨b, o, y, rfl, hy, ky⟩ := s0.at2 hpl
  have hyk : y = 16 := by have := hg.op; unfold opOf at this; rw [hp] at this; simp only [Int.toNat_natCast] at this; rw [hy.out] at this; exact this
  subst hyk
  obtain ⟨b', o', y1, hA1, hy1, ky1⟩ := s0.at2 (show p + 1 < s.image.length by omega)
  cases hA1
  have hb1 : 0 ≤ y1 ∧ y1 < 256 := hok.wf.image y1 (List.mem_of_getElem? hy1.out)
  obtain ⟨y10, y11⟩ := hb1
  have hbB := World.block_lt_of_cell? w _ ky
  simp only at hbB
  have hne : ¬ b = w.heap.size := by omega
  have hne' : ¬ w.heap.size = b := by omega
  have HE0 := Lib.hid e0
  have HE2 := Lib.hid e2
  have HS2 := Lib.hid s2
  have HKY := Lib.hid ky
  have HKY1 := Lib.hid ky1
  have hin : inB 16 16 18 = true := rfl
  clear h hok hz hr hp hg hbad e0 e2 s0 s2 ky ky1
  obtain ⟨i0, hi, hz0, hz1, hz2⟩ := info_parts info25
  have HI := Lib.hid hi
  have HZ0 := Lib.hid hz0
  have HZ1 := Lib.hid hz1
  have HZ2 := Lib.hid hz2
  clear hi hz0 hz1 hz2
  go_enter Tryd.func26, Tryd.ntmps26
  go_upto_region 0 with (fail)
  go_cut [1, 2] (fun s1 s2 wx => s1 = .pointer (some ⟨w.heap.size, 0, none⟩) ∧ s2 = .pointer (some ⟨w.heap.size + 1, 0, none⟩) ∧ Two2 w wx cs)
  case first =>
    go_wp2_with fail
    go_meet
    exact ⟨rfl, rfl, zeroSt_lit ▸ two2_mk w cs⟩
  obtain ⟨rfl, rfl, ht⟩ := hcut
  have HT := Lib.hid ht
  have HC := Lib.hid (stopped_c cs s wc (HH.out.st.ext ht.x) HOK.out)
  clear ht
  go_upto_region 5 with (first | refine wpList_load_row rfl 28 _ rfl w.heap.size rfl 28 cs (0, 0) _ HT.out.b1 Tryd.underlying28 rfl (by rw [HS.out]; exact size28) ?_ | (go_at_call 31; refine HC.out.mono ?_; rw [HZ.out]; rintro e w1 ⟨rfl, hx1⟩; have HT1 := Lib.hid (HT.out.ext hx1); clear hx1))
  have HP0 := Lib.hid (two2_p0 HH.out HT1.out)
  have k0 : w1.cell? ⟨w.heap.size, 0, none⟩ = some (.slice (some ⟨b, o, none⟩) s.image.length c0) := (blk_cell HT1.out.b1 0).trans HE0.out
  have k1 : w1.cell? ⟨w.heap.size, 1, none⟩ = some (.int .i64 (p : Int)) := (blk_cell HT1.out.b1 1).trans (by rw [HH.out.st.at_, HP1.out])
  have z1 := blk_frozen HT1.out.b1 1
  have ky := HT1.out.x.cell HKY.out
  have ky1 := HT1.out.x.cell HKY1.out
  go_upto_region 14 with ((go_at_call 16; refine (In_c _ _ _ _).mono ?_; rintro e w' ⟨rfl, rfl⟩))
  go_cut [6] (fun s6 wx => s6 = .slice none 0 0 ∧ P0 bad w wx { s with at_ := (p : Int) + 1 + 1 } ((cs.setIfInBounds 1 (.int .i64 ((p : Int) + 1))).setIfInBounds 1 (.int .i64 ((p : Int) + 1 + 1))))
  case first =>
    go_wp2_with fail
    go_meet
    exact ⟨rfl, (HP0.out.set (fun F h => at_set (n := (p : Int) + 1) h ⟨by omega, by omega⟩)).set (fun F h => at_set (s := { s with at_ := (p : Int) + 1 }) (n := (p : Int) + 1 + 1) h ⟨by omega, by omega⟩)⟩
  obtain ⟨rfl, hp0⟩ := hcut
  obtain ⟨w0, rfl⟩ : ∃ w0 : World, w0 = wc := ⟨_, rfl⟩
  have hlt0 := hp0.lt
  have k2 : w0.cell? ⟨w.heap.size, 2, none⟩ = some (.slice A2 s.data.length c2) := (blk_cell hp0.b1 2).trans (by rw [keyne (by decide), keyne (by decide)]; exact HE2.out)
  have HSL := Lib.hid (s2_ext HS2.out hp0.x)
  have HP2 := Lib.hid hp0
  clear hp0 k0 k1 z1 ky ky1
  go_upto_region 16 with (at_builtin; refine wpList_append_sl rfl _ _ 23 rfl (w.heap.size + 2) 25 i0 (.int .u16 0) 1 2 Tryd.underlying23 HI.out HZ0.out HZ1.out HZ2.out rfl (by decide) _ 0 [] rfl (World.ownsRow_nil _ _ _ _) A2 s.data.length c2 (s.data.map (Value.int .u16)) rfl HSL.out (by simp) ints_one (by unfold maxLen; omega) (by omega) (by omega) ?_; intro v w2 ho hgr _hat; simp only [Nat.zero_add, List.nil_append] at ho; have HPR := Lib.hid (HP2.out.row ho hgr); obtain ⟨A, c, rfl, hnc, hcm, hA, hsl⟩ := own_sl ho; clear hgr ho _hat)
  clear k2
  have k1b : w2.cell? ⟨w.heap.size, 1, none⟩ = some (.int .i64 ((p : Int) + 1 + 1)) := (blk_cell HPR.out.b1 1).trans HPR.out.is.at_
  have z1b := blk_frozen HPR.out.b1 1
  go_upto_region 63 with (fail)
  refine wp_world (fun wx => Mid bad w wx { { s with at_ := (p : Int) + 1 + 1 } with at_ := y1 } (((cs.setIfInBounds 1 (.int .i64 ((p : Int) + 1))).setIfInBounds 1 (.int .i64 ((p : Int) + 1 + 1))).setIfInBounds 1 (.int .i64 y1)) (.slice A s.data.length c) s.data) (HPR.out.set (fun F h => at_set (s := { s with at_ := (p : Int) + 1 + 1 }) (n := y1) h ⟨by omega, by omega⟩)).mid ?_
  intro wf hm
  have HHALF : Hid (Half s.data) := HOK.out.wf.data
  have HEQ : Hid ({ { { s with at_ := (p : Int) + 1 + 1 } with at_ := y1 } with data := s.data } = r) := by
    show _ = r
    rw [← HR.out, stepF_go HZ.out HG.out.op]
    exact st_eq rfl (by show y1 = operandF s; exact (show operandF s = y1 from by unfold operandF; rw [HG.out.op, if_neg (by decide), if_pos (by decide), HP1.out, Int.toNat_natCast, hy1.out]; rfl).symm) (by show s.data = s.data.take (s.data.length - 0) ++ []; simp) rfl rfl rfl rfl rfl
  obtain ⟨A9, c9, e9, _⟩ := hm.is.data
  have k9 := (blk_cell hm.b1 2).trans e9
  have z9 := blk_frozen hm.b1 2
  have HB1 := Lib.hid (heap_set_bm hm.b1 2 (.slice A s.data.length c))
  have HB2 : Hid ((wf.setCell ⟨w.heap.size, 2, none⟩ (.slice A s.data.length c)).heap[w.heap.size + 1]? = some (.cells zeroSt 28 (0, 0))) := (set_other (by omega)).trans hm.b2
  have HST := Lib.hid (data_set hm.is (own_agr HBAD.out hm.own (fun _ _ _ _ _ => rfl)) HHALF.out)
  have HSB := Lib.hid HST.out.size
  have HO := Lib.hid (st_one HST.out)
  have HFIN := Lib.hid (hm.fin HBAD.out HHALF.out HEQ.out)
  clear hm e9
  obtain ⟨cz, hcz⟩ : ∃ cz, cz = (((cs.setIfInBounds 1 (.int .i64 ((p : Int) + 1))).setIfInBounds 1 (.int .i64 ((p : Int) + 1 + 1))).setIfInBounds 1 (.int .i64 y1)).setIfInBounds 2 (.slice A s.data.length c) := ⟨_, rfl⟩
  rw [← hcz] at HB1 HSB HO HFIN
  clear hcz HST
  go_wp2_with (first | refine wpList_load_row rfl 28 _ rfl w.heap.size rfl 28 cz (0, 0) _ HB1.out Tryd.underlying28 rfl (by rw [HSB.out]; exact size28) ?_ | refine wpList_store_row rfl 28 _ _ rfl (w.heap.size + 1) cz rfl rfl 28 zeroSt HB2.out (by rw [HSB.out]; exact size28) (by rw [HSB.out]; rfl) HO.out ?_)
  refine bodyPost_ret (results_one rfl _ _ (w.heap.size + 1) 28 cz (0, 0) _ rfl ?_ Tryd.underlying28 rfl (by rw [HSB.out]; exact size28)) rfl HFIN.out
  exact setRow_heap _ _ _ _ _ _ HB2.out
end Go.Proofs.YtpooedfchjpndaaDoor
