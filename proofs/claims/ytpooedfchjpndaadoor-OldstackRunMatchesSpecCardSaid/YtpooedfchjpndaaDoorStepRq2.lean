import Derived.Test.YtpooedfchjpndaaDoorStepRp
namespace Go.Proofs.YtpooedfchjpndaaDoor
open Go Go.Proofs Go.RowKit
set_option maxHeartbeats 12800000
set_option maxRecDepth 100000
theorem stepR_17z (bad : Nat → Prop) (cs : Array Value) (s : St) (w : World) (hbad : ∀ g, bad g → g < w.heap.size) (h : StAv bad w cs s) (hok : OkSt s) (hz : stopOf s = 0) (hg : GoesOn s 17) (htz : topF s.data 0 = 0) : Calls Tryd.prog 26 #[.agg cs] w (SpRet bad w (stepF s)) := by
  have HH := Lib.hid h
  have HTZ := Lib.hid htz
  clear htz
  have HOK := Lib.hid hok
  have HS := Lib.hid h.st.size
  have HG := Lib.hid hg
  have HBAD := Lib.hid hbad
  have HZ := Lib.hid hz
  obtain ⟨r, hr⟩ : ∃ r, stepF s = r := ⟨_, rfl⟩
  rw [hr]
  have HR := Lib.hid hr
  have il := hok.il
  have dl := hok.dl
  have rl := hok.rl
  have ol := hok.ol
  have inl := hok.inl
  have a0 := hok.at0
  have a1 := hok.at1
  obtain ⟨p, hp⟩ : ∃ p : Nat, s.at_ = p := ⟨s.at_.toNat, by omega⟩
  have HP1 := Lib.hid hp
  have hpl : p < s.image.length := by have := hg.lt; omega
  have hpz : p + 1 < s.image.length := by have := hg.img; rw [show sizeOp 17 = 1 from rfl] at this; omega
  have hdn : 1 ≤ s.data.length := by have := hg.dl; rw [show takesOf 17 = 1 from rfl] at this; omega
  rw [hp] at a0 a1
  obtain ⟨A0, c0, e0, _, _, _, s0⟩ := h.st.image
  obtain ⟨A2, c2, e2, _, _, q2, s2⟩ := h.st.data
  obtain ⟨b, o, y, rfl, hy, ky⟩ := s0.at2 hpl
  have hyk : y = 17 := by have := hg.op; unfold opOf at this; rw [hp] at this; simp only [Int.toNat_natCast] at this; rw [hy.out] at this; exact this
  subst hyk
  obtain ⟨b', o', y1, hA1, hy1, ky1⟩ := s0.at2 (show p + 1 < s.image.length by omega)
  cases hA1
  have hb1 : 0 ≤ y1 ∧ y1 < 256 := hok.wf.image y1 (List.mem_of_getElem? hy1.out)
  obtain ⟨y10, y11⟩ := hb1
  have hbB := World.block_lt_of_cell? w _ ky
  simp only at hbB
  have hne : ¬ b = w.heap.size := by omega
  have hne' : ¬ w.heap.size = b := by omega
  have HE0 := Lib.hid e0
  have HE2 := Lib.hid e2
  have HS2 := Lib.hid s2
  have HKY := Lib.hid ky
  have HKY1 := Lib.hid ky1
  have hin : inB 17 16 18 = true := rfl
  clear h hok hz hr hp hg hbad e0 e2 s0 s2 ky ky1
  obtain ⟨i0, hi, hz0, hz1, hz2⟩ := info_parts info25
  have HI := Lib.hid hi
  have HZ0 := Lib.hid hz0
  have HZ1 := Lib.hid hz1
  have HZ2 := Lib.hid hz2
  clear hi hz0 hz1 hz2
  go_enter Tryd.func26, Tryd.ntmps26
  go_upto_region 0 with (fail)
  go_cut [1, 2] (fun s1 s2 wx => s1 = .pointer (some ⟨w.heap.size, 0, none⟩) ∧ s2 = .pointer (some ⟨w.heap.size + 1, 0, none⟩) ∧ Two2 w wx cs)
  case first =>
    go_wp2_with fail
    go_meet
    exact ⟨rfl, rfl, zeroSt_lit ▸ two2_mk w cs⟩
  obtain ⟨rfl, rfl, ht⟩ := hcut
  have HT := Lib.hid ht
  have HC := Lib.hid (stopped_c cs s wc (HH.out.st.ext ht.x) HOK.out)
  clear ht
  go_upto_region 5 with (first | refine wpList_load_row rfl 28 _ rfl w.heap.size rfl 28 cs (0, 0) _ HT.out.b1 Tryd.underlying28 rfl (by rw [HS.out]; exact size28) ?_ | (go_at_call 31; refine HC.out.mono ?_; rw [HZ.out]; rintro e w1 ⟨rfl, hx1⟩; have HT1 := Lib.hid (HT.out.ext hx1); clear hx1))
  have HP0 := Lib.hid (two2_p0 HH.out HT1.out)
  have k0 : w1.cell? ⟨w.heap.size, 0, none⟩ = some (.slice (some ⟨b, o, none⟩) s.image.length c0) := (blk_cell HT1.out.b1 0).trans HE0.out
  have k1 : w1.cell? ⟨w.heap.size, 1, none⟩ = some (.int .i64 (p : Int)) := (blk_cell HT1.out.b1 1).trans (by rw [HH.out.st.at_, HP1.out])
  have z1 := blk_frozen HT1.out.b1 1
  have ky := HT1.out.x.cell HKY.out
  have ky1 := HT1.out.x.cell HKY1.out
  go_upto_region 14 with ((go_at_call 16; refine (In_c _ _ _ _).mono ?_; rintro e w' ⟨rfl, rfl⟩))
  go_cut [6] (fun s6 wx => s6 = .slice none 0 0 ∧ P0 bad w wx { s with at_ := (p : Int) + 1 + 1 } ((cs.setIfInBounds 1 (.int .i64 ((p : Int) + 1))).setIfInBounds 1 (.int .i64 ((p : Int) + 1 + 1))))
  case first =>
    go_wp2_with fail
    go_meet
    exact ⟨rfl, (HP0.out.set (fun F h => at_set (n := (p : Int) + 1) h ⟨by omega, by omega⟩)).set (fun F h => at_set (s := { s with at_ := (p : Int) + 1 }) (n := (p : Int) + 1 + 1) h ⟨by omega, by omega⟩)⟩
  obtain ⟨rfl, hp0⟩ := hcut
  obtain ⟨w0, rfl⟩ : ∃ w0 : World, w0 = wc := ⟨_, rfl⟩
  have hlt0 := hp0.lt
  have k2 : w0.cell? ⟨w.heap.size, 2, none⟩ = some (.slice A2 s.data.length c2) := (blk_cell hp0.b1 2).trans (by rw [keyne (by decide), keyne (by decide)]; exact HE2.out)
  have HSL := Lib.hid (s2_ext HS2.out hp0.x)
  have HP2 := Lib.hid hp0
  clear hp0 k0 k1 z1 ky ky1
  go_upto_region 16 with (at_builtin; refine wpList_append_sl rfl _ _ 23 rfl (w.heap.size + 2) 25 i0 (.int .u16 0) 1 2 Tryd.underlying23 HI.out HZ0.out HZ1.out HZ2.out rfl (by decide) _ 0 [] rfl (World.ownsRow_nil _ _ _ _) A2 s.data.length c2 (s.data.map (Value.int .u16)) rfl HSL.out (by simp) ints_one (by unfold maxLen; omega) (by omega) (by omega) ?_; intro v w2 ho hgr _hat; simp only [Nat.zero_add, List.nil_append] at ho; have HPR := Lib.hid (HP2.out.row ho hgr); obtain ⟨A, c, rfl, hnc, hcm, hA, hsl⟩ := own_sl ho; clear hgr ho _hat)
  clear k2
  have hlt2 := HPR.out.lt
  obtain ⟨gd, rfl, hgd⟩ := own_head HPR.out.own (by omega)
  obtain ⟨t1, ht1⟩ : ∃ t, s.data[s.data.length - 1]? = some t := ⟨_, List.getElem?_eq_getElem (by omega)⟩
  have kt1 : w2.cell? ⟨gd, s.data.length - 1, none⟩ = some (.int .u16 t1) := (HPR.out.own.cellAt (s.data.length - 1) (by omega)).trans (by rw [List.getElem?_map, ht1]; rfl)
  have bt1 : 0 ≤ t1 ∧ t1 < 65536 := HOK.out.wf.data t1 (List.mem_of_getElem? ht1)
  obtain ⟨b10, b11⟩ := bt1
  have HT1' : Hid (topF s.data 0 = t1) := top_at (i := 0) (by rw [Nat.sub_zero]; exact ht1) (by omega)
  have HTT1 := Lib.hid ht1
  have i1 : ((s.data.length : Int) - 1).toNat = s.data.length - 1 := by omega
  have i2 : 0 ≤ (s.data.length : Int) - 1 := by omega
  have i3 : (s.data.length : Int) - 1 < s.data.length := by omega
  clear ht1
  have hs1 : ∀ W : World, (Instr.slice 23 (.slice (some ⟨gd, 0, none⟩) s.data.length c) none (some (.int .i64 ((s.data.length : Int) - 1))) none).run Tryd.prog W = .ok (.slice (some ⟨gd, 0, none⟩) (s.data.length - 1) c) W := fun W => by have := run_slice_to (P := Tryd.prog) W 23 25 i0 Tryd.underlying23 HI.out (some ⟨gd, 0, none⟩) s.data.length c (s.data.length - 1) .i64 (by omega); rw [show ((s.data.length - 1 : Nat) : Int) = (s.data.length : Int) - 1 from by omega] at this; exact this
  have k1b : w2.cell? ⟨w.heap.size, 1, none⟩ = some (.int .i64 ((p : Int) + 1 + 1)) := (blk_cell HPR.out.b1 1).trans HPR.out.is.at_
  have z1b := blk_frozen HPR.out.b1 1
  obtain rfl : t1 = 0 := by rw [← HT1'.out]; exact HTZ.out
  go_upto_region 63 with (fail)
  refine wp_world (fun wx => Mid bad w wx { { s with at_ := (p : Int) + 1 + 1 } with at_ := y1 } (((cs.setIfInBounds 1 (.int .i64 ((p : Int) + 1))).setIfInBounds 1 (.int .i64 ((p : Int) + 1 + 1))).setIfInBounds 1 (.int .i64 y1)) (.slice (some ⟨gd, 0, none⟩) (s.data.length - 1) c) (s.data.take (s.data.length - 1))) ((HPR.out.set (fun F h => at_set (s := { s with at_ := (p : Int) + 1 + 1 }) (n := y1) h ⟨by omega, by omega⟩)).cut (by omega)).mid ?_
  intro wf hm
  have HHALF : Hid (Half (s.data.take (s.data.length - 1))) := fun x hx => HOK.out.wf.data x (List.mem_of_mem_take hx)
  have HEQ : Hid ({ { { s with at_ := (p : Int) + 1 + 1 } with at_ := y1 } with data := (s.data.take (s.data.length - 1)) } = r) := by
    show _ = r
    rw [← HR.out, stepF_go HZ.out HG.out.op]
    rw [show effF { s with at_ := s.at_ + 1 + sizeOp 17, data := s.data.take (s.data.length - (takesOf 17).toNat) } 17 (operandF s) (topF s.data 1) (topF s.data 0) = ([], { s with at_ := operandF s, data := s.data.take (s.data.length - (takesOf 17).toNat) }) from by simp [effF, HTZ.out]]
    exact st_eq rfl (by show y1 = operandF s; exact (show operandF s = y1 from by unfold operandF; rw [HG.out.op, if_neg (by decide), if_pos (by decide), HP1.out, Int.toNat_natCast, hy1.out]; rfl).symm) (by show s.data.take (s.data.length - 1) = s.data.take (s.data.length - 1) ++ []; simp) rfl rfl rfl rfl rfl
  obtain ⟨A9, c9, e9, _⟩ := hm.is.data
  have k9 := (blk_cell hm.b1 2).trans e9
  have z9 := blk_frozen hm.b1 2
  have HB1 := Lib.hid (heap_set_bm hm.b1 2 (.slice (some ⟨gd, 0, none⟩) (s.data.length - 1) c))
  have HB2 : Hid ((wf.setCell ⟨w.heap.size, 2, none⟩ (.slice (some ⟨gd, 0, none⟩) (s.data.length - 1) c)).heap[w.heap.size + 1]? = some (.cells zeroSt 28 (0, 0))) := (set_other (by omega)).trans hm.b2
  have HST := Lib.hid (data_set hm.is (own_agr HBAD.out hm.own (fun _ _ _ _ _ => rfl)) HHALF.out)
  have HSB := Lib.hid HST.out.size
  have HO := Lib.hid (st_one HST.out)
  have HFIN := Lib.hid (hm.fin HBAD.out HHALF.out HEQ.out)
  clear hm e9
  obtain ⟨cz, hcz⟩ : ∃ cz, cz = (((cs.setIfInBounds 1 (.int .i64 ((p : Int) + 1))).setIfInBounds 1 (.int .i64 ((p : Int) + 1 + 1))).setIfInBounds 1 (.int .i64 y1)).setIfInBounds 2 (.slice (some ⟨gd, 0, none⟩) (s.data.length - 1) c) := ⟨_, rfl⟩
  rw [← hcz] at HB1 HSB HO HFIN
  clear hcz HST
  go_wp2_with (first | refine wpList_load_row rfl 28 _ rfl w.heap.size rfl 28 cz (0, 0) _ HB1.out Tryd.underlying28 rfl (by rw [HSB.out]; exact size28) ?_ | refine wpList_store_row rfl 28 _ _ rfl (w.heap.size + 1) cz rfl rfl 28 zeroSt HB2.out (by rw [HSB.out]; exact size28) (by rw [HSB.out]; rfl) HO.out ?_)
  refine bodyPost_ret (results_one rfl _ _ (w.heap.size + 1) 28 cz (0, 0) _ rfl ?_ Tryd.underlying28 rfl (by rw [HSB.out]; exact size28)) rfl HFIN.out
  exact setRow_heap _ _ _ _ _ _ HB2.out
theorem stepR_17n (bad : Nat → Prop) (cs : Array Value) (s : St) (w : World) (hbad : ∀ g, bad g → g < w.heap.size) (h : StAv bad w cs s) (hok : OkSt s) (hz : stopOf s = 0) (hg : GoesOn s 17) (htz : topF s.data 0 ≠ 0) : Calls Tryd.prog 26 #[.agg cs] w (SpRet bad w (stepF s)) := by
  have HH := Lib.hid h
  have HTZ := Lib.hid htz
  clear htz
  have HOK := Lib.hid hok
  have HS := Lib.hid h.st.size
  have HG := Lib.hid hg
  have HBAD := Lib.hid hbad
  have HZ := Lib.hid hz
  obtain ⟨r, hr⟩ : ∃ r, stepF s = r := ⟨_, rfl⟩
  rw [hr]
  have HR := Lib.hid hr
  have il := hok.il
  have dl := hok.dl
  have rl := hok.rl
  have ol := hok.ol
  have inl := hok.inl
  have a0 := hok.at0
  have a1 := hok.at1
  obtain ⟨p, hp⟩ : ∃ p : Nat, s.at_ = p := ⟨s.at_.toNat, by omega⟩
  have HP1 := Lib.hid hp
  have hpl : p < s.image.length := by have := hg.lt; omega
  have hpz : p + 1 < s.image.length := by have := hg.img; rw [show sizeOp 17 = 1 from rfl] at this; omega
  have hdn : 1 ≤ s.data.length := by have := hg.dl; rw [show takesOf 17 = 1 from rfl] at this; omega
  rw [hp] at a0 a1
  obtain ⟨A0, c0, e0, _, _, _, s0⟩ := h.st.image
  obtain ⟨A2, c2, e2, _, _, q2, s2⟩ := h.st.data
  obtain ⟨b, o, y, rfl, hy, ky⟩ := s0.at2 hpl
  have hyk : y = 17 := by have := hg.op; unfold opOf at this; rw [hp] at this; simp only [Int.toNat_natCast] at this; rw [hy.out] at this; exact this
  subst hyk
  obtain ⟨b', o', y1, hA1, hy1, ky1⟩ := s0.at2 (show p + 1 < s.image.length by omega)
  cases hA1
  have hb1 : 0 ≤ y1 ∧ y1 < 256 := hok.wf.image y1 (List.mem_of_getElem? hy1.out)
  obtain ⟨y10, y11⟩ := hb1
  have hbB := World.block_lt_of_cell? w _ ky
  simp only at hbB
  have hne : ¬ b = w.heap.size := by omega
  have hne' : ¬ w.heap.size = b := by omega
  have HE0 := Lib.hid e0
  have HE2 := Lib.hid e2
  have HS2 := Lib.hid s2
  have HKY := Lib.hid ky
  have HKY1 := Lib.hid ky1
  have hin : inB 17 16 18 = true := rfl
  clear h hok hz hr hp hg hbad e0 e2 s0 s2 ky ky1
  obtain ⟨i0, hi, hz0, hz1, hz2⟩ := info_parts info25
  have HI := Lib.hid hi
  have HZ0 := Lib.hid hz0
  have HZ1 := Lib.hid hz1
  have HZ2 := Lib.hid hz2
  clear hi hz0 hz1 hz2
  go_enter Tryd.func26, Tryd.ntmps26
  go_upto_region 0 with (fail)
  go_cut [1, 2] (fun s1 s2 wx => s1 = .pointer (some ⟨w.heap.size, 0, none⟩) ∧ s2 = .pointer (some ⟨w.heap.size + 1, 0, none⟩) ∧ Two2 w wx cs)
  case first =>
    go_wp2_with fail
    go_meet
    exact ⟨rfl, rfl, zeroSt_lit ▸ two2_mk w cs⟩
  obtain ⟨rfl, rfl, ht⟩ := hcut
  have HT := Lib.hid ht
  have HC := Lib.hid (stopped_c cs s wc (HH.out.st.ext ht.x) HOK.out)
  clear ht
  go_upto_region 5 with (first | refine wpList_load_row rfl 28 _ rfl w.heap.size rfl 28 cs (0, 0) _ HT.out.b1 Tryd.underlying28 rfl (by rw [HS.out]; exact size28) ?_ | (go_at_call 31; refine HC.out.mono ?_; rw [HZ.out]; rintro e w1 ⟨rfl, hx1⟩; have HT1 := Lib.hid (HT.out.ext hx1); clear hx1))
  have HP0 := Lib.hid (two2_p0 HH.out HT1.out)
  have k0 : w1.cell? ⟨w.heap.size, 0, none⟩ = some (.slice (some ⟨b, o, none⟩) s.image.length c0) := (blk_cell HT1.out.b1 0).trans HE0.out
  have k1 : w1.cell? ⟨w.heap.size, 1, none⟩ = some (.int .i64 (p : Int)) := (blk_cell HT1.out.b1 1).trans (by rw [HH.out.st.at_, HP1.out])
  have z1 := blk_frozen HT1.out.b1 1
  have ky := HT1.out.x.cell HKY.out
  have ky1 := HT1.out.x.cell HKY1.out
  go_upto_region 14 with ((go_at_call 16; refine (In_c _ _ _ _).mono ?_; rintro e w' ⟨rfl, rfl⟩))
  go_cut [6] (fun s6 wx => s6 = .slice none 0 0 ∧ P0 bad w wx { s with at_ := (p : Int) + 1 + 1 } ((cs.setIfInBounds 1 (.int .i64 ((p : Int) + 1))).setIfInBounds 1 (.int .i64 ((p : Int) + 1 + 1))))
  case first =>
    go_wp2_with fail
    go_meet
    exact ⟨rfl, (HP0.out.set (fun F h => at_set (n := (p : Int) + 1) h ⟨by omega, by omega⟩)).set (fun F h => at_set (s := { s with at_ := (p : Int) + 1 }) (n := (p : Int) + 1 + 1) h ⟨by omega, by omega⟩)⟩
  obtain ⟨rfl, hp0⟩ := hcut
  obtain ⟨w0, rfl⟩ : ∃ w0 : World, w0 = wc := ⟨_, rfl⟩
  have hlt0 := hp0.lt
  have k2 : w0.cell? ⟨w.heap.size, 2, none⟩ = some (.slice A2 s.data.length c2) := (blk_cell hp0.b1 2).trans (by rw [keyne (by decide), keyne (by decide)]; exact HE2.out)
  have HSL := Lib.hid (s2_ext HS2.out hp0.x)
  have HP2 := Lib.hid hp0
  clear hp0 k0 k1 z1 ky ky1
  go_upto_region 16 with (at_builtin; refine wpList_append_sl rfl _ _ 23 rfl (w.heap.size + 2) 25 i0 (.int .u16 0) 1 2 Tryd.underlying23 HI.out HZ0.out HZ1.out HZ2.out rfl (by decide) _ 0 [] rfl (World.ownsRow_nil _ _ _ _) A2 s.data.length c2 (s.data.map (Value.int .u16)) rfl HSL.out (by simp) ints_one (by unfold maxLen; omega) (by omega) (by omega) ?_; intro v w2 ho hgr _hat; simp only [Nat.zero_add, List.nil_append] at ho; have HPR := Lib.hid (HP2.out.row ho hgr); obtain ⟨A, c, rfl, hnc, hcm, hA, hsl⟩ := own_sl ho; clear hgr ho _hat)
  clear k2
  have hlt2 := HPR.out.lt
  obtain ⟨gd, rfl, hgd⟩ := own_head HPR.out.own (by omega)
  obtain ⟨t1, ht1⟩ : ∃ t, s.data[s.data.length - 1]? = some t := ⟨_, List.getElem?_eq_getElem (by omega)⟩
  have kt1 : w2.cell? ⟨gd, s.data.length - 1, none⟩ = some (.int .u16 t1) := (HPR.out.own.cellAt (s.data.length - 1) (by omega)).trans (by rw [List.getElem?_map, ht1]; rfl)
  have bt1 : 0 ≤ t1 ∧ t1 < 65536 := HOK.out.wf.data t1 (List.mem_of_getElem? ht1)
  obtain ⟨b10, b11⟩ := bt1
  have HT1' : Hid (topF s.data 0 = t1) := top_at (i := 0) (by rw [Nat.sub_zero]; exact ht1) (by omega)
  have HTT1 := Lib.hid ht1
  have i1 : ((s.data.length : Int) - 1).toNat = s.data.length - 1 := by omega
  have i2 : 0 ≤ (s.data.length : Int) - 1 := by omega
  have i3 : (s.data.length : Int) - 1 < s.data.length := by omega
  clear ht1
  have hs1 : ∀ W : World, (Instr.slice 23 (.slice (some ⟨gd, 0, none⟩) s.data.length c) none (some (.int .i64 ((s.data.length : Int) - 1))) none).run Tryd.prog W = .ok (.slice (some ⟨gd, 0, none⟩) (s.data.length - 1) c) W := fun W => by have := run_slice_to (P := Tryd.prog) W 23 25 i0 Tryd.underlying23 HI.out (some ⟨gd, 0, none⟩) s.data.length c (s.data.length - 1) .i64 (by omega); rw [show ((s.data.length - 1 : Nat) : Int) = (s.data.length : Int) - 1 from by omega] at this; exact this
  have k1b : w2.cell? ⟨w.heap.size, 1, none⟩ = some (.int .i64 ((p : Int) + 1 + 1)) := (blk_cell HPR.out.b1 1).trans HPR.out.is.at_
  have z1b := blk_frozen HPR.out.b1 1
  have hnz : (t1 == 0) = false := by have := HTZ.out; rw [HT1'.out] at this; simpa using this
  go_upto_region 63 with (fail)
  refine wp_world (fun wx => Mid bad w wx { s with at_ := (p : Int) + 1 + 1 } ((cs.setIfInBounds 1 (.int .i64 ((p : Int) + 1))).setIfInBounds 1 (.int .i64 ((p : Int) + 1 + 1))) (.slice (some ⟨gd, 0, none⟩) (s.data.length - 1) c) (s.data.take (s.data.length - 1))) (HPR.out.cut (by omega)).mid ?_
  intro wf hm
  have HHALF : Hid (Half (s.data.take (s.data.length - 1))) := fun x hx => HOK.out.wf.data x (List.mem_of_mem_take hx)
  have HEQ : Hid ({ { s with at_ := (p : Int) + 1 + 1 } with data := (s.data.take (s.data.length - 1)) } = r) := by
    show _ = r
    rw [← HR.out, stepF_go HZ.out HG.out.op]
    rw [show effF { s with at_ := s.at_ + 1 + sizeOp 17, data := s.data.take (s.data.length - (takesOf 17).toNat) } 17 (operandF s) (topF s.data 1) (topF s.data 0) = ([], { s with at_ := s.at_ + 1 + sizeOp 17, data := s.data.take (s.data.length - (takesOf 17).toNat) }) from by simp [effF, HTZ.out]]
    exact st_eq rfl (by show (p : Int) + 1 + 1 = s.at_ + 1 + sizeOp 17; rw [HP1.out]; have : sizeOp 17 = 1 := rfl; omega) (by show s.data.take (s.data.length - 1) = s.data.take (s.data.length - 1) ++ []; simp) rfl rfl rfl rfl rfl
  obtain ⟨A9, c9, e9, _⟩ := hm.is.data
  have k9 := (blk_cell hm.b1 2).trans e9
  have z9 := blk_frozen hm.b1 2
  have HB1 := Lib.hid (heap_set_bm hm.b1 2 (.slice (some ⟨gd, 0, none⟩) (s.data.length - 1) c))
  have HB2 : Hid ((wf.setCell ⟨w.heap.size, 2, none⟩ (.slice (some ⟨gd, 0, none⟩) (s.data.length - 1) c)).heap[w.heap.size + 1]? = some (.cells zeroSt 28 (0, 0))) := (set_other (by omega)).trans hm.b2
  have HST := Lib.hid (data_set hm.is (own_agr HBAD.out hm.own (fun _ _ _ _ _ => rfl)) HHALF.out)
  have HSB := Lib.hid HST.out.size
  have HO := Lib.hid (st_one HST.out)
  have HFIN := Lib.hid (hm.fin HBAD.out HHALF.out HEQ.out)
  clear hm e9
  obtain ⟨cz, hcz⟩ : ∃ cz, cz = ((cs.setIfInBounds 1 (.int .i64 ((p : Int) + 1))).setIfInBounds 1 (.int .i64 ((p : Int) + 1 + 1))).setIfInBounds 2 (.slice (some ⟨gd, 0, none⟩) (s.data.length - 1) c) := ⟨_, rfl⟩
  rw [← hcz] at HB1 HSB HO HFIN
  clear hcz HST
  go_wp2_with (first | refine wpList_load_row rfl 28 _ rfl w.heap.size rfl 28 cz (0, 0) _ HB1.out Tryd.underlying28 rfl (by rw [HSB.out]; exact size28) ?_ | refine wpList_store_row rfl 28 _ _ rfl (w.heap.size + 1) cz rfl rfl 28 zeroSt HB2.out (by rw [HSB.out]; exact size28) (by rw [HSB.out]; rfl) HO.out ?_)
  refine bodyPost_ret (results_one rfl _ _ (w.heap.size + 1) 28 cz (0, 0) _ rfl ?_ Tryd.underlying28 rfl (by rw [HSB.out]; exact size28)) rfl HFIN.out
  exact setRow_heap _ _ _ _ _ _ HB2.out
theorem stepR_18 (bad : Nat → Prop) (cs : Array Value) (s : St) (w : World) (hbad : ∀ g, bad g → g < w.heap.size) (h : StAv bad w cs s) (hok : OkSt s) (hz : stopOf s = 0) (hg : GoesOn s 18) : Calls Tryd.prog 26 #[.agg cs] w (SpRet bad w (stepF s)) := by
  have HH := Lib.hid h
  have HOK := Lib.hid hok
  have HS := Lib.hid h.st.size
  have HG := Lib.hid hg
  have HBAD := Lib.hid hbad
  have HZ := Lib.hid hz
  obtain ⟨r, hr⟩ : ∃ r, stepF s = r := ⟨_, rfl⟩
  rw [hr]
  have HR := Lib.hid hr
  have il := hok.il
  have dl := hok.dl
  have rl := hok.rl
  have ol := hok.ol
  have inl := hok.inl
  have a0 := hok.at0
  have a1 := hok.at1
  obtain ⟨p, hp⟩ : ∃ p : Nat, s.at_ = p := ⟨s.at_.toNat, by omega⟩
  have HP1 := Lib.hid hp
  have hpl : p < s.image.length := by have := hg.lt; omega
  have hpz : p + 1 < s.image.length := by have := hg.img; rw [show sizeOp 18 = 1 from rfl] at this; omega
  rw [hp] at a0 a1
  obtain ⟨A0, c0, e0, _, _, _, s0⟩ := h.st.image
  obtain ⟨A2, c2, e2, _, _, q2, s2⟩ := h.st.data
  obtain ⟨b, o, y, rfl, hy, ky⟩ := s0.at2 hpl
  have hyk : y = 18 := by have := hg.op; unfold opOf at this; rw [hp] at this; simp only [Int.toNat_natCast] at this; rw [hy.out] at this; exact this
  subst hyk
  obtain ⟨b', o', y1, hA1, hy1, ky1⟩ := s0.at2 (show p + 1 < s.image.length by omega)
  cases hA1
  have hb1 : 0 ≤ y1 ∧ y1 < 256 := hok.wf.image y1 (List.mem_of_getElem? hy1.out)
  obtain ⟨y10, y11⟩ := hb1
  have hbB := World.block_lt_of_cell? w _ ky
  simp only at hbB
  have hne : ¬ b = w.heap.size := by omega
  have hne' : ¬ w.heap.size = b := by omega
  have HE0 := Lib.hid e0
  have HE2 := Lib.hid e2
  have HS2 := Lib.hid s2
  have HKY := Lib.hid ky
  have HKY1 := Lib.hid ky1
  have hin : inB 18 16 18 = true := rfl
  clear h hok hz hr hp hg hbad e0 e2 s0 s2 ky ky1
  obtain ⟨i0, hi, hz0, hz1, hz2⟩ := info_parts info25
  have HI := Lib.hid hi
  have HZ0 := Lib.hid hz0
  have HZ1 := Lib.hid hz1
  have HZ2 := Lib.hid hz2
  clear hi hz0 hz1 hz2
  go_enter Tryd.func26, Tryd.ntmps26
  go_upto_region 0 with (fail)
  go_cut [1, 2] (fun s1 s2 wx => s1 = .pointer (some ⟨w.heap.size, 0, none⟩) ∧ s2 = .pointer (some ⟨w.heap.size + 1, 0, none⟩) ∧ Two2 w wx cs)
  case first =>
    go_wp2_with fail
    go_meet
    exact ⟨rfl, rfl, zeroSt_lit ▸ two2_mk w cs⟩
  obtain ⟨rfl, rfl, ht⟩ := hcut
  have HT := Lib.hid ht
  have HC := Lib.hid (stopped_c cs s wc (HH.out.st.ext ht.x) HOK.out)
  clear ht
  go_upto_region 5 with (first | refine wpList_load_row rfl 28 _ rfl w.heap.size rfl 28 cs (0, 0) _ HT.out.b1 Tryd.underlying28 rfl (by rw [HS.out]; exact size28) ?_ | (go_at_call 31; refine HC.out.mono ?_; rw [HZ.out]; rintro e w1 ⟨rfl, hx1⟩; have HT1 := Lib.hid (HT.out.ext hx1); clear hx1))
  have HP0 := Lib.hid (two2_p0 HH.out HT1.out)
  have k0 : w1.cell? ⟨w.heap.size, 0, none⟩ = some (.slice (some ⟨b, o, none⟩) s.image.length c0) := (blk_cell HT1.out.b1 0).trans HE0.out
  have k1 : w1.cell? ⟨w.heap.size, 1, none⟩ = some (.int .i64 (p : Int)) := (blk_cell HT1.out.b1 1).trans (by rw [HH.out.st.at_, HP1.out])
  have z1 := blk_frozen HT1.out.b1 1
  have ky := HT1.out.x.cell HKY.out
  have ky1 := HT1.out.x.cell HKY1.out
  go_upto_region 14 with ((go_at_call 16; refine (In_c _ _ _ _).mono ?_; rintro e w' ⟨rfl, rfl⟩))
  go_cut [6] (fun s6 wx => s6 = .slice none 0 0 ∧ P0 bad w wx { s with at_ := (p : Int) + 1 + 1 } ((cs.setIfInBounds 1 (.int .i64 ((p : Int) + 1))).setIfInBounds 1 (.int .i64 ((p : Int) + 1 + 1))))
  case first =>
    go_wp2_with fail
    go_meet
    exact ⟨rfl, (HP0.out.set (fun F h => at_set (n := (p : Int) + 1) h ⟨by omega, by omega⟩)).set (fun F h => at_set (s := { s with at_ := (p : Int) + 1 }) (n := (p : Int) + 1 + 1) h ⟨by omega, by omega⟩)⟩
  obtain ⟨rfl, hp0⟩ := hcut
  obtain ⟨w0, rfl⟩ : ∃ w0 : World, w0 = wc := ⟨_, rfl⟩
  have hlt0 := hp0.lt
  have k2 : w0.cell? ⟨w.heap.size, 2, none⟩ = some (.slice A2 s.data.length c2) := (blk_cell hp0.b1 2).trans (by rw [keyne (by decide), keyne (by decide)]; exact HE2.out)
  have HSL := Lib.hid (s2_ext HS2.out hp0.x)
  have HP2 := Lib.hid hp0
  clear hp0 k0 k1 z1 ky ky1
  go_upto_region 16 with (at_builtin; refine wpList_append_sl rfl _ _ 23 rfl (w.heap.size + 2) 25 i0 (.int .u16 0) 1 2 Tryd.underlying23 HI.out HZ0.out HZ1.out HZ2.out rfl (by decide) _ 0 [] rfl (World.ownsRow_nil _ _ _ _) A2 s.data.length c2 (s.data.map (Value.int .u16)) rfl HSL.out (by simp) ints_one (by unfold maxLen; omega) (by omega) (by omega) ?_; intro v w2 ho hgr _hat; simp only [Nat.zero_add, List.nil_append] at ho; have HPR := Lib.hid (HP2.out.row ho hgr); obtain ⟨A, c, rfl, hnc, hcm, hA, hsl⟩ := own_sl ho; clear hgr ho _hat)
  clear k2
  have hlt2 := HPR.out.lt
  have hr8 : s.ret.length < 8 := HG.out.r18 rfl
  obtain ⟨A4, c4, e4, _, _, _, s4⟩ := HH.out.st.ret
  have e4' : ((cs.setIfInBounds 1 (.int .i64 ((p : Int) + 1))).setIfInBounds 1 (.int .i64 ((p : Int) + 1 + 1)))[3]? = some (.slice A4 s.ret.length c4) := by rw [keyne (by decide), keyne (by decide)]; exact e4
  have k3b : w2.cell? ⟨w.heap.size, 3, none⟩ = some (.slice A4 s.ret.length c4) := (blk_cell HPR.out.b1 3).trans e4'
  obtain ⟨i4, hi4, hz4, hz41, hz42⟩ := info_parts info3
  have HI4 := Lib.hid hi4
  have HZ4 := Lib.hid hz4
  have HZ41 := Lib.hid hz41
  have HZ42 := Lib.hid hz42
  have HS4 := Lib.hid (s4.ext HPR.out.x)
  have HE4 := Lib.hid e4'
  clear e4 e4' s4 hi4 hz4 hz41 hz42
  go_upto_region 43 with (at_builtin; refine wpList_append_sl rfl _ _ 24 rfl (w.heap.size + 2) 3 i4 (.int .i64 0) 1 8 Tryd.underlying24 HI4.out HZ4.out HZ41.out HZ42.out rfl (by decide) _ 0 [] rfl (World.ownsRow_nil _ _ _ _) A4 s.ret.length c4 (s.ret.map (Value.int .i64)) rfl HS4.out (by simp) ints_one (by unfold maxLen; omega) (by omega) (by omega) ?_; intro v4 w4 ho4 hg4 _h4; simp only [Nat.zero_add, List.nil_append] at ho4; have HP4 := Lib.hid (HPR.out.ext (grown_ext hg4)); have HO4 := Lib.hid ho4; obtain ⟨A6, c6, rfl, _, _, _, _⟩ := own_sl ho4; clear ho4 hg4 _h4)
  have k1b : w4.cell? ⟨w.heap.size, 1, none⟩ = some (.int .i64 ((p : Int) + 1 + 1)) := (blk_cell HP4.out.b1 1).trans HP4.out.is.at_
  have hlt4 := HP4.out.lt
  clear k3b
  go_upto_region 44 with (at_builtin; refine wpList_append_sl rfl _ _ 24 rfl (w.heap.size + 2) 3 i4 (.int .i64 0) 1 8 Tryd.underlying24 HI4.out HZ4.out HZ41.out HZ42.out rfl (by decide) _ s.ret.length (s.ret.map (Value.int .i64)) rfl (HO4.out.alloc _) (some ⟨w4.heap.size, 0, none⟩) 1 1 [.int .i64 ((p : Int) + 1 + 1)] rfl (slc_new w4 [.int .i64 ((p : Int) + 1 + 1)] 3) rfl (by simp [Value.oneCell']) (by unfold maxLen; omega) (by omega) (by simp; omega) ?_; intro v5 w5 ho5 hg5 _h5; have HP5 := Lib.hid ((HP4.out.ext ((Ext.refl w4).alloc _)).side (HO4.out.alloc _) (by decide) hg5); have HO5 : Hid (w5.ownsRow (w.heap.size + 2) 3 1 v5 (s.ret ++ [(p : Int) + 1 + 1]).length ((s.ret ++ [(p : Int) + 1 + 1]).map (Value.int .i64))) := (by rw [List.length_append, List.map_append]; exact ho5); obtain ⟨A7, c7, rfl, _, _, _, _⟩ := own_sl ho5; have k3c := (blk_cell HP5.out.b1 3).trans HE4.out; have z3c := blk_frozen HP5.out.b1 3; clear ho5 hg5 _h5 k1b)
  have k1c : w5.cell? ⟨w.heap.size, 1, none⟩ = some (.int .i64 ((p : Int) + 1 + 1)) := (blk_cell HP5.out.b1 1).trans HP5.out.is.at_
  have z1c := blk_frozen HP5.out.b1 1
  go_upto_region 63 with (fail)
  refine wp_world (fun wx => Mid bad w wx { { s with at_ := (p : Int) + 1 + 1 } with ret := s.ret ++ [(p : Int) + 1 + 1], at_ := y1 } ((((cs.setIfInBounds 1 (.int .i64 ((p : Int) + 1))).setIfInBounds 1 (.int .i64 ((p : Int) + 1 + 1))).setIfInBounds 3 (.slice A7 (s.ret.length + 1) c7)).setIfInBounds 1 (.int .i64 y1)) (.slice A s.data.length c) s.data) ((HP5.out.mid.set (fun F hA h => ret_set (s := { s with at_ := (p : Int) + 1 + 1 }) h (own_agr HBAD.out HO5.out hA) (fun x hx => (List.mem_append.1 hx).elim (fun hx => by have := HOK.out.ret x hx; exact ⟨by omega, by omega⟩) (fun hx => by rw [List.mem_singleton.1 hx]; exact ⟨by omega, by omega⟩)))).set (fun F _ h => at_set (s := { { s with at_ := (p : Int) + 1 + 1 } with ret := s.ret ++ [(p : Int) + 1 + 1] }) (n := y1) h ⟨by omega, by omega⟩)) ?_
  intro wf hm
  have HHALF : Hid (Half s.data) := HOK.out.wf.data
  have HEQ : Hid ({ { { s with at_ := (p : Int) + 1 + 1 } with ret := s.ret ++ [(p : Int) + 1 + 1], at_ := y1 } with data := s.data } = r) := by
    show _ = r
    rw [← HR.out, stepF_go HZ.out HG.out.op]
    exact st_eq rfl (by show y1 = operandF s; exact (show operandF s = y1 from by unfold operandF; rw [HG.out.op, if_neg (by decide), if_pos (by decide), HP1.out, Int.toNat_natCast, hy1.out]; rfl).symm) (by show s.data = s.data.take (s.data.length - 0) ++ []; simp) (by show s.ret ++ [(p : Int) + 1 + 1] = s.ret ++ [s.at_ + 1 + sizeOp 18]; rw [HP1.out]; rfl) rfl rfl rfl rfl
  obtain ⟨A9, c9, e9, _⟩ := hm.is.data
  have k9 := (blk_cell hm.b1 2).trans e9
  have z9 := blk_frozen hm.b1 2
  have HB1 := Lib.hid (heap_set_bm hm.b1 2 (.slice A s.data.length c))
  have HB2 : Hid ((wf.setCell ⟨w.heap.size, 2, none⟩ (.slice A s.data.length c)).heap[w.heap.size + 1]? = some (.cells zeroSt 28 (0, 0))) := (set_other (by omega)).trans hm.b2
  have HST := Lib.hid (data_set hm.is (own_agr HBAD.out hm.own (fun _ _ _ _ _ => rfl)) HHALF.out)
  have HSB := Lib.hid HST.out.size
  have HO := Lib.hid (st_one HST.out)
  have HFIN := Lib.hid (hm.fin HBAD.out HHALF.out HEQ.out)
  clear hm e9
  obtain ⟨cz, hcz⟩ : ∃ cz, cz = ((((cs.setIfInBounds 1 (.int .i64 ((p : Int) + 1))).setIfInBounds 1 (.int .i64 ((p : Int) + 1 + 1))).setIfInBounds 3 (.slice A7 (s.ret.length + 1) c7)).setIfInBounds 1 (.int .i64 y1)).setIfInBounds 2 (.slice A s.data.length c) := ⟨_, rfl⟩
  rw [← hcz] at HB1 HSB HO HFIN
  clear hcz HST
  go_wp2_with (first | refine wpList_load_row rfl 28 _ rfl w.heap.size rfl 28 cz (0, 0) _ HB1.out Tryd.underlying28 rfl (by rw [HSB.out]; exact size28) ?_ | refine wpList_store_row rfl 28 _ _ rfl (w.heap.size + 1) cz rfl rfl 28 zeroSt HB2.out (by rw [HSB.out]; exact size28) (by rw [HSB.out]; rfl) HO.out ?_)
  refine bodyPost_ret (results_one rfl _ _ (w.heap.size + 1) 28 cz (0, 0) _ rfl ?_ Tryd.underlying28 rfl (by rw [HSB.out]; exact size28)) rfl HFIN.out
  exact setRow_heap _ _ _ _ _ _ HB2.out
theorem stepR_19 (bad : Nat → Prop) (cs : Array Value) (s : St) (w : World) (hbad : ∀ g, bad g → g < w.heap.size) (h : StAv bad w cs s) (hok : OkSt s) (hz : stopOf s = 0) (hg : GoesOn s 19) : Calls Tryd.prog 26 #[.agg cs] w (SpRet bad w (stepF s)) := by
  have HH := Lib.hid h
  have HOK := Lib.hid hok
  have HS := Lib.hid h.st.size
  have HG := Lib.hid hg
  have HBAD := Lib.hid hbad
  have HZ := Lib.hid hz
  obtain ⟨r, hr⟩ : ∃ r, stepF s = r := ⟨_, rfl⟩
  rw [hr]
  have HR := Lib.hid hr
  have il := hok.il
  have dl := hok.dl
  have rl := hok.rl
  have ol := hok.ol
  have inl := hok.inl
  have a0 := hok.at0
  have a1 := hok.at1
  obtain ⟨p, hp⟩ : ∃ p : Nat, s.at_ = p := ⟨s.at_.toNat, by omega⟩
  have HP1 := Lib.hid hp
  have hpl : p < s.image.length := by have := hg.lt; omega
  rw [hp] at a0 a1
  obtain ⟨A0, c0, e0, _, _, _, s0⟩ := h.st.image
  obtain ⟨A2, c2, e2, _, _, q2, s2⟩ := h.st.data
  obtain ⟨b, o, y, rfl, hy, ky⟩ := s0.at2 hpl
  have hyk : y = 19 := by have := hg.op; unfold opOf at this; rw [hp] at this; simp only [Int.toNat_natCast] at this; rw [hy.out] at this; exact this
  subst hyk
  have hbB := World.block_lt_of_cell? w _ ky
  simp only at hbB
  have hne : ¬ b = w.heap.size := by omega
  have hne' : ¬ w.heap.size = b := by omega
  have HE0 := Lib.hid e0
  have HE2 := Lib.hid e2
  have HS2 := Lib.hid s2
  have HKY := Lib.hid ky
  have hin : inB 19 16 18 = false := rfl
  clear h hok hz hr hp hg hbad e0 e2 s0 s2 ky
  obtain ⟨i0, hi, hz0, hz1, hz2⟩ := info_parts info25
  have HI := Lib.hid hi
  have HZ0 := Lib.hid hz0
  have HZ1 := Lib.hid hz1
  have HZ2 := Lib.hid hz2
  clear hi hz0 hz1 hz2
  go_enter Tryd.func26, Tryd.ntmps26
  go_upto_region 0 with (fail)
  go_cut [1, 2] (fun s1 s2 wx => s1 = .pointer (some ⟨w.heap.size, 0, none⟩) ∧ s2 = .pointer (some ⟨w.heap.size + 1, 0, none⟩) ∧ Two2 w wx cs)
  case first =>
    go_wp2_with fail
    go_meet
    exact ⟨rfl, rfl, zeroSt_lit ▸ two2_mk w cs⟩
  obtain ⟨rfl, rfl, ht⟩ := hcut
  have HT := Lib.hid ht
  have HC := Lib.hid (stopped_c cs s wc (HH.out.st.ext ht.x) HOK.out)
  clear ht
  go_upto_region 5 with (first | refine wpList_load_row rfl 28 _ rfl w.heap.size rfl 28 cs (0, 0) _ HT.out.b1 Tryd.underlying28 rfl (by rw [HS.out]; exact size28) ?_ | (go_at_call 31; refine HC.out.mono ?_; rw [HZ.out]; rintro e w1 ⟨rfl, hx1⟩; have HT1 := Lib.hid (HT.out.ext hx1); clear hx1))
  have HP0 := Lib.hid (two2_p0 HH.out HT1.out)
  have k0 : w1.cell? ⟨w.heap.size, 0, none⟩ = some (.slice (some ⟨b, o, none⟩) s.image.length c0) := (blk_cell HT1.out.b1 0).trans HE0.out
  have k1 : w1.cell? ⟨w.heap.size, 1, none⟩ = some (.int .i64 (p : Int)) := (blk_cell HT1.out.b1 1).trans (by rw [HH.out.st.at_, HP1.out])
  have z1 := blk_frozen HT1.out.b1 1
  have ky := HT1.out.x.cell HKY.out
  go_upto_region 14 with ((go_at_call 16; refine (In_c _ _ _ _).mono ?_; rintro e w' ⟨rfl, rfl⟩))
  go_cut [6] (fun s6 wx => s6 = .slice none 0 0 ∧ P0 bad w wx { s with at_ := (p : Int) + 1 } (cs.setIfInBounds 1 (.int .i64 ((p : Int) + 1))))
  case first =>
    go_wp2_with fail
    go_meet
    exact ⟨rfl, HP0.out.set (fun F h => at_set (n := (p : Int) + 1) h ⟨by omega, by omega⟩)⟩
  obtain ⟨rfl, hp0⟩ := hcut
  obtain ⟨w0, rfl⟩ : ∃ w0 : World, w0 = wc := ⟨_, rfl⟩
  have hlt0 := hp0.lt
  have k2 : w0.cell? ⟨w.heap.size, 2, none⟩ = some (.slice A2 s.data.length c2) := (blk_cell hp0.b1 2).trans (by rw [keyne (by decide)]; exact HE2.out)
  have HSL := Lib.hid (s2_ext HS2.out hp0.x)
  have HP2 := Lib.hid hp0
  clear hp0 k0 k1 z1 ky
  go_upto_region 16 with (at_builtin; refine wpList_append_sl rfl _ _ 23 rfl (w.heap.size + 2) 25 i0 (.int .u16 0) 1 2 Tryd.underlying23 HI.out HZ0.out HZ1.out HZ2.out rfl (by decide) _ 0 [] rfl (World.ownsRow_nil _ _ _ _) A2 s.data.length c2 (s.data.map (Value.int .u16)) rfl HSL.out (by simp) ints_one (by unfold maxLen; omega) (by omega) (by omega) ?_; intro v w2 ho hgr _hat; simp only [Nat.zero_add, List.nil_append] at ho; have HPR := Lib.hid (HP2.out.row ho hgr); obtain ⟨A, c, rfl, hnc, hcm, hA, hsl⟩ := own_sl ho; clear hgr ho _hat)
  clear k2
  obtain ⟨A4, c4, e4, _, _, _, s4⟩ := HH.out.st.ret
  have hrn : 1 ≤ s.ret.length := by have := HG.out.r19 rfl; omega
  obtain ⟨b4, o4, q, rfl, hq, kq⟩ := s4.at2 (show s.ret.length - 1 < s.ret.length by omega)
  have hb4 := World.block_lt_of_cell? w _ kq
  simp only at hb4
  have hn4 : ¬ b4 = w.heap.size := by omega
  have hn4' : ¬ w.heap.size = b4 := by omega
  have kq2 := HPR.out.x.cell kq
  have e4' : (cs.setIfInBounds 1 (.int .i64 ((p : Int) + 1)))[3]? = some (.slice (some ⟨b4, o4, none⟩) s.ret.length c4) := by rw [keyne (by decide)]; exact e4
  have k3b : w2.cell? ⟨w.heap.size, 3, none⟩ = some (.slice (some ⟨b4, o4, none⟩) s.ret.length c4) := (blk_cell HPR.out.b1 3).trans e4'
  have z3b := blk_frozen HPR.out.b1 3
  have k1b : w2.cell? ⟨w.heap.size, 1, none⟩ = some (.int .i64 ((p : Int) + 1)) := (blk_cell HPR.out.b1 1).trans HPR.out.is.at_
  have z1b := blk_frozen HPR.out.b1 1
  have HE4 := Lib.hid e4'
  have bq := HOK.out.ret q (List.mem_of_getElem? hq.out)
  obtain ⟨q0, q1⟩ := bq
  have HRET : Hid (topF s.ret 0 = q) := top_at (i := 0) (by rw [Nat.sub_zero]; exact hq.out) (by omega)
  obtain ⟨i4, hi4, hz4, hz41, hz42⟩ := info_parts info3
  have hs4 : ∀ W : World, (Instr.slice 24 (.slice (some ⟨b4, o4, none⟩) s.ret.length c4) none (some (.int .i64 ((s.ret.length : Int) - 1))) none).run Tryd.prog W = .ok (.slice (some ⟨b4, o4, none⟩) (s.ret.length - 1) c4) W := fun W => by have := run_slice_to (P := Tryd.prog) W 24 3 i4 Tryd.underlying24 hi4 (some ⟨b4, o4, none⟩) s.ret.length c4 (s.ret.length - 1) .i64 (by omega); rw [show ((s.ret.length - 1 : Nat) : Int) = (s.ret.length : Int) - 1 from by omega] at this; exact this
  have i1 : ((s.ret.length : Int) - 1).toNat = s.ret.length - 1 := by omega
  have i2 : 0 ≤ (s.ret.length : Int) - 1 := by omega
  have i3 : (s.ret.length : Int) - 1 < s.ret.length := by omega
  clear e4 e4' s4 kq hi4 hz4 hz41 hz42
  go_upto_region 63 with (fail)
  refine wp_world (fun wx => Mid bad w wx { { s with at_ := (p : Int) + 1 } with at_ := q, ret := s.ret.take (s.ret.length - 1) } (((cs.setIfInBounds 1 (.int .i64 ((p : Int) + 1))).setIfInBounds 1 (.int .i64 q)).setIfInBounds 3 (.slice (some ⟨b4, o4, none⟩) (s.ret.length - 1) c4)) (.slice A s.data.length c) s.data) ((HPR.out.set (fun F h => at_set (s := { s with at_ := (p : Int) + 1 }) (n := q) h ⟨by omega, by omega⟩)).set (fun F h => ret_set (s := { { s with at_ := (p : Int) + 1 } with at_ := q }) h (by have := h.ret; rw [keyne (by decide), HE4.out] at this; exact slAt_take this (by show s.ret.length - 1 ≤ s.ret.length; omega)) (fun x hx => by have := HOK.out.ret x (List.mem_of_mem_take hx); exact ⟨by omega, by omega⟩))).mid ?_
  intro wf hm
  have HHALF : Hid (Half s.data) := HOK.out.wf.data
  have HEQ : Hid ({ { { s with at_ := (p : Int) + 1 } with at_ := q, ret := s.ret.take (s.ret.length - 1) } with data := s.data } = r) := by
    show _ = r
    rw [← HR.out, stepF_go HZ.out HG.out.op]
    exact st_eq rfl (by show q = topF s.ret 0; exact HRET.out.symm) (by show s.data = s.data.take (s.data.length - 0) ++ []; simp) rfl rfl rfl rfl rfl
  obtain ⟨A9, c9, e9, _⟩ := hm.is.data
  have k9 := (blk_cell hm.b1 2).trans e9
  have z9 := blk_frozen hm.b1 2
  have HB1 := Lib.hid (heap_set_bm hm.b1 2 (.slice A s.data.length c))
  have HB2 : Hid ((wf.setCell ⟨w.heap.size, 2, none⟩ (.slice A s.data.length c)).heap[w.heap.size + 1]? = some (.cells zeroSt 28 (0, 0))) := (set_other (by omega)).trans hm.b2
  have HST := Lib.hid (data_set hm.is (own_agr HBAD.out hm.own (fun _ _ _ _ _ => rfl)) HHALF.out)
  have HSB := Lib.hid HST.out.size
  have HO := Lib.hid (st_one HST.out)
  have HFIN := Lib.hid (hm.fin HBAD.out HHALF.out HEQ.out)
  clear hm e9
  obtain ⟨cz, hcz⟩ : ∃ cz, cz = (((cs.setIfInBounds 1 (.int .i64 ((p : Int) + 1))).setIfInBounds 1 (.int .i64 q)).setIfInBounds 3 (.slice (some ⟨b4, o4, none⟩) (s.ret.length - 1) c4)).setIfInBounds 2 (.slice A s.data.length c) := ⟨_, rfl⟩
  rw [← hcz] at HB1 HSB HO HFIN
  clear hcz HST
  go_wp2_with (first | refine wpList_load_row rfl 28 _ rfl w.heap.size rfl 28 cz (0, 0) _ HB1.out Tryd.underlying28 rfl (by rw [HSB.out]; exact size28) ?_ | refine wpList_store_row rfl 28 _ _ rfl (w.heap.size + 1) cz rfl rfl 28 zeroSt HB2.out (by rw [HSB.out]; exact size28) (by rw [HSB.out]; rfl) HO.out ?_)
  refine bodyPost_ret (results_one rfl _ _ (w.heap.size + 1) 28 cz (0, 0) _ rfl ?_ Tryd.underlying28 rfl (by rw [HSB.out]; exact size28)) rfl HFIN.out
  exact setRow_heap _ _ _ _ _ _ HB2.out
end Go.Proofs.YtpooedfchjpndaaDoor
