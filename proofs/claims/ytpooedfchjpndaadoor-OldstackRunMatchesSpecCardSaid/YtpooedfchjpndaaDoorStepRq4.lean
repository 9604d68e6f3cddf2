import Derived.Test.YtpooedfchjpndaaDoorStepRp
namespace Go.Proofs.YtpooedfchjpndaaDoor
open Go Go.Proofs Go.RowKit
set_option maxHeartbeats 12800000
set_option maxRecDepth 100000
theorem stepR_22e (bad : Nat → Prop) (cs : Array Value) (s : St) (w : World) (hbad : ∀ g, bad g → g < w.heap.size) (h : StAv bad w cs s) (hok : OkSt s) (hz : stopOf s = 0) (hg : GoesOn s 22) (hin0 : s.input = []) : Calls Tryd.prog 26 #[.agg cs] w (SpRet bad w (stepF s)) := by
  have HH := Lib.hid h
  have HIN0 := Lib.hid hin0
  clear hin0
  have HOK := Lib.hid hok
  have HS := Lib.hid h.st.size
  have HG := Lib.hid hg
  have HBAD := Lib.hid hbad
  have HZ := Lib.hid hz
  obtain ⟨r, hr⟩ : ∃ r, stepF s = r := ⟨_, rfl⟩
  rw [hr]
  have HR := Lib.hid hr
  have il := hok.il
  have dl := hok.dl
  have rl := hok.rl
  have ol := hok.ol
  have inl := hok.inl
  have a0 := hok.at0
  have a1 := hok.at1
  obtain ⟨p, hp⟩ : ∃ p : Nat, s.at_ = p := ⟨s.at_.toNat, by omega⟩
  have HP1 := Lib.hid hp
  have hpl : p < s.image.length := by have := hg.lt; omega
  rw [hp] at a0 a1
  obtain ⟨A0, c0, e0, _, _, _, s0⟩ := h.st.image
  obtain ⟨A2, c2, e2, _, _, q2, s2⟩ := h.st.data
  obtain ⟨b, o, y, rfl, hy, ky⟩ := s0.at2 hpl
  have hyk : y = 22 := by have := hg.op; unfold opOf at this; rw [hp] at this; simp only [Int.toNat_natCast] at this; rw [hy.out] at this; exact this
  subst hyk
  have hbB := World.block_lt_of_cell? w _ ky
  simp only at hbB
  have hne : ¬ b = w.heap.size := by omega
  have hne' : ¬ w.heap.size = b := by omega
  have HE0 := Lib.hid e0
  have HE2 := Lib.hid e2
  have HS2 := Lib.hid s2
  have HKY := Lib.hid ky
  have hin : inB 22 16 18 = false := rfl
  clear h hok hz hr hp hg hbad e0 e2 s0 s2 ky
  obtain ⟨i0, hi, hz0, hz1, hz2⟩ := info_parts info25
  have HI := Lib.hid hi
  have HZ0 := Lib.hid hz0
  have HZ1 := Lib.hid hz1
  have HZ2 := Lib.hid hz2
  clear hi hz0 hz1 hz2
  go_enter Tryd.func26, Tryd.ntmps26
  go_upto_region 0 with (fail)
  go_cut [1, 2] (fun s1 s2 wx => s1 = .pointer (some ⟨w.heap.size, 0, none⟩) ∧ s2 = .pointer (some ⟨w.heap.size + 1, 0, none⟩) ∧ Two2 w wx cs)
  case first =>
    go_wp2_with fail
    go_meet
    exact ⟨rfl, rfl, zeroSt_lit ▸ two2_mk w cs⟩
  obtain ⟨rfl, rfl, ht⟩ := hcut
  have HT := Lib.hid ht
  have HC := Lib.hid (stopped_c cs s wc (HH.out.st.ext ht.x) HOK.out)
  clear ht
  go_upto_region 5 with (first | refine wpList_load_row rfl 28 _ rfl w.heap.size rfl 28 cs (0, 0) _ HT.out.b1 Tryd.underlying28 rfl (by rw [HS.out]; exact size28) ?_ | (go_at_call 31; refine HC.out.mono ?_; rw [HZ.out]; rintro e w1 ⟨rfl, hx1⟩; have HT1 := Lib.hid (HT.out.ext hx1); clear hx1))
  have HP0 := Lib.hid (two2_p0 HH.out HT1.out)
  have k0 : w1.cell? ⟨w.heap.size, 0, none⟩ = some (.slice (some ⟨b, o, none⟩) s.image.length c0) := (blk_cell HT1.out.b1 0).trans HE0.out
  have k1 : w1.cell? ⟨w.heap.size, 1, none⟩ = some (.int .i64 (p : Int)) := (blk_cell HT1.out.b1 1).trans (by rw [HH.out.st.at_, HP1.out])
  have z1 := blk_frozen HT1.out.b1 1
  have ky := HT1.out.x.cell HKY.out
  go_upto_region 14 with ((go_at_call 16; refine (In_c _ _ _ _).mono ?_; rintro e w' ⟨rfl, rfl⟩))
  go_cut [6] (fun s6 wx => s6 = .slice none 0 0 ∧ P0 bad w wx { s with at_ := (p : Int) + 1 } (cs.setIfInBounds 1 (.int .i64 ((p : Int) + 1))))
  case first =>
    go_wp2_with fail
    go_meet
    exact ⟨rfl, HP0.out.set (fun F h => at_set (n := (p : Int) + 1) h ⟨by omega, by omega⟩)⟩
  obtain ⟨rfl, hp0⟩ := hcut
  obtain ⟨w0, rfl⟩ : ∃ w0 : World, w0 = wc := ⟨_, rfl⟩
  have hlt0 := hp0.lt
  have k2 : w0.cell? ⟨w.heap.size, 2, none⟩ = some (.slice A2 s.data.length c2) := (blk_cell hp0.b1 2).trans (by rw [keyne (by decide)]; exact HE2.out)
  have HSL := Lib.hid (s2_ext HS2.out hp0.x)
  have HP2 := Lib.hid hp0
  clear hp0 k0 k1 z1 ky
  go_upto_region 16 with (at_builtin; refine wpList_append_sl rfl _ _ 23 rfl (w.heap.size + 2) 25 i0 (.int .u16 0) 1 2 Tryd.underlying23 HI.out HZ0.out HZ1.out HZ2.out rfl (by decide) _ 0 [] rfl (World.ownsRow_nil _ _ _ _) A2 s.data.length c2 (s.data.map (Value.int .u16)) rfl HSL.out (by simp) ints_one (by unfold maxLen; omega) (by omega) (by omega) ?_; intro v w2 ho hgr _hat; simp only [Nat.zero_add, List.nil_append] at ho; have HPR := Lib.hid (HP2.out.row ho hgr); obtain ⟨A, c, rfl, hnc, hcm, hA, hsl⟩ := own_sl ho; clear hgr ho _hat)
  clear k2
  have hlt2 := HPR.out.lt
  have hdu : s.data.length + 1 ≤ 16 := by have := HG.out.du; rw [show takesOf 22 = 0 from rfl, show leavesOf 22 = 1 from rfl] at this; omega
  obtain ⟨A5, c5, e5, l5, m5, q5, s5⟩ := HH.out.st.input
  rw [HIN0.out] at e5 l5 s5
  have k5 : w2.cell? ⟨w.heap.size, 36, none⟩ = some (.slice A5 0 c5) := (blk_cell HPR.out.b1 36).trans (by rw [keyne (by decide)]; exact e5)
  clear e5 l5 m5 q5 s5
  go_upto_region 63 with (at_builtin; refine wpList_append_sl rfl _ _ 23 rfl (w.heap.size + 2) 25 i0 (.int .u16 0) 1 2 Tryd.underlying23 HI.out HZ0.out HZ1.out HZ2.out rfl (by decide) _ s.data.length ((s.data).map (Value.int .u16)) rfl (HPR.out.own.alloc _) (some ⟨w2.heap.size, 0, none⟩) 1 1 [.int .u16 65535] rfl (slc_new w2 [.int .u16 65535] 25) rfl (by simp [Value.oneCell']) (by unfold maxLen; omega) (by omega) (by simp; omega) ?_; intro v3 w3 ho3 hg3 _h3; have HP3 := Lib.hid ((HPR.out.ext ((Ext.refl w2).alloc _)).row (l' := s.data ++ [65535]) (by rw [List.length_append, List.map_append]; exact ho3) hg3); obtain ⟨A3, c3, rfl, _, _, _, _⟩ := own_sl ho3; clear ho3 hg3 _h3)
  refine wp_world (fun wx => Mid bad w wx { s with at_ := (p : Int) + 1 } (cs.setIfInBounds 1 (.int .i64 ((p : Int) + 1))) (.slice A3 (s.data.length + 1) c3) (s.data ++ [65535])) HP3.out.mid ?_
  intro wf hm
  have HHALF : Hid (Half (s.data ++ [65535])) := half_append HOK.out.wf.data (half_cons ⟨by omega, by omega⟩ half_nil)
  have HEQ : Hid ({ { s with at_ := (p : Int) + 1 } with data := (s.data ++ [65535]) } = r) := by
    show _ = r
    rw [← HR.out, stepF_go HZ.out HG.out.op]
    rw [show effF { s with at_ := s.at_ + 1 + sizeOp 22, data := s.data.take (s.data.length - (takesOf 22).toNat) } 22 (operandF s) (topF s.data 1) (topF s.data 0) = ([65535], { s with at_ := s.at_ + 1 + sizeOp 22, data := s.data.take (s.data.length - (takesOf 22).toNat) }) from by simp [effF, HIN0.out]]
    exact st_eq rfl (by show (p : Int) + 1 = s.at_ + 1 + sizeOp 22; rw [HP1.out]; have : sizeOp 22 = 0 := rfl; omega) (by show s.data ++ [65535] = s.data.take (s.data.length - 0) ++ [65535]; simp) rfl rfl rfl rfl rfl
  obtain ⟨A9, c9, e9, _⟩ := hm.is.data
  have k9 := (blk_cell hm.b1 2).trans e9
  have z9 := blk_frozen hm.b1 2
  have HB1 := Lib.hid (heap_set_bm hm.b1 2 (.slice A3 (s.data.length + 1) c3))
  have HB2 : Hid ((wf.setCell ⟨w.heap.size, 2, none⟩ (.slice A3 (s.data.length + 1) c3)).heap[w.heap.size + 1]? = some (.cells zeroSt 28 (0, 0))) := (set_other (by omega)).trans hm.b2
  have HST := Lib.hid (data_set hm.is (own_agr HBAD.out hm.own (fun _ _ _ _ _ => rfl)) HHALF.out)
  have HSB := Lib.hid HST.out.size
  have HO := Lib.hid (st_one HST.out)
  have HFIN := Lib.hid (hm.fin HBAD.out HHALF.out HEQ.out)
  clear hm e9
  obtain ⟨cz, hcz⟩ : ∃ cz, cz = (cs.setIfInBounds 1 (.int .i64 ((p : Int) + 1))).setIfInBounds 2 (.slice A3 (s.data.length + 1) c3) := ⟨_, rfl⟩
  rw [← hcz] at HB1 HSB HO HFIN
  clear hcz HST
  go_wp2_with (first | refine wpList_load_row rfl 28 _ rfl w.heap.size rfl 28 cz (0, 0) _ HB1.out Tryd.underlying28 rfl (by rw [HSB.out]; exact size28) ?_ | refine wpList_store_row rfl 28 _ _ rfl (w.heap.size + 1) cz rfl rfl 28 zeroSt HB2.out (by rw [HSB.out]; exact size28) (by rw [HSB.out]; rfl) HO.out ?_)
  refine bodyPost_ret (results_one rfl _ _ (w.heap.size + 1) 28 cz (0, 0) _ rfl ?_ Tryd.underlying28 rfl (by rw [HSB.out]; exact size28)) rfl HFIN.out
  exact setRow_heap _ _ _ _ _ _ HB2.out
theorem stepR_22x (bad : Nat → Prop) (cs : Array Value) (s : St) (w : World) (hbad : ∀ g, bad g → g < w.heap.size) (h : StAv bad w cs s) (hok : OkSt s) (hz : stopOf s = 0) (hg : GoesOn s 22) (xi : Int) (ri : List Int) (hin0 : s.input = xi :: ri) : Calls Tryd.prog 26 #[.agg cs] w (SpRet bad w (stepF s)) := by
  have HH := Lib.hid h
  have HIN0 := Lib.hid hin0
  clear hin0
  have HOK := Lib.hid hok
  have HS := Lib.hid h.st.size
  have HG := Lib.hid hg
  have HBAD := Lib.hid hbad
  have HZ := Lib.hid hz
  obtain ⟨r, hr⟩ : ∃ r, stepF s = r := ⟨_, rfl⟩
  rw [hr]
  have HR := Lib.hid hr
  have il := hok.il
  have dl := hok.dl
  have rl := hok.rl
  have ol := hok.ol
  have inl := hok.inl
  have a0 := hok.at0
  have a1 := hok.at1
  obtain ⟨p, hp⟩ : ∃ p : Nat, s.at_ = p := ⟨s.at_.toNat, by omega⟩
  have HP1 := Lib.hid hp
  have hpl : p < s.image.length := by have := hg.lt; omega
  rw [hp] at a0 a1
  obtain ⟨A0, c0, e0, _, _, _, s0⟩ := h.st.image
  obtain ⟨A2, c2, e2, _, _, q2, s2⟩ := h.st.data
  obtain ⟨b, o, y, rfl, hy, ky⟩ := s0.at2 hpl
  have hyk : y = 22 := by have := hg.op; unfold opOf at this; rw [hp] at this; simp only [Int.toNat_natCast] at this; rw [hy.out] at this; exact this
  subst hyk
  have hbB := World.block_lt_of_cell? w _ ky
  simp only at hbB
  have hne : ¬ b = w.heap.size := by omega
  have hne' : ¬ w.heap.size = b := by omega
  have HE0 := Lib.hid e0
  have HE2 := Lib.hid e2
  have HS2 := Lib.hid s2
  have HKY := Lib.hid ky
  have hin : inB 22 16 18 = false := rfl
  clear h hok hz hr hp hg hbad e0 e2 s0 s2 ky
  obtain ⟨i0, hi, hz0, hz1, hz2⟩ := info_parts info25
  have HI := Lib.hid hi
  have HZ0 := Lib.hid hz0
  have HZ1 := Lib.hid hz1
  have HZ2 := Lib.hid hz2
  clear hi hz0 hz1 hz2
  go_enter Tryd.func26, Tryd.ntmps26
  go_upto_region 0 with (fail)
  go_cut [1, 2] (fun s1 s2 wx => s1 = .pointer (some ⟨w.heap.size, 0, none⟩) ∧ s2 = .pointer (some ⟨w.heap.size + 1, 0, none⟩) ∧ Two2 w wx cs)
  case first =>
    go_wp2_with fail
    go_meet
    exact ⟨rfl, rfl, zeroSt_lit ▸ two2_mk w cs⟩
  obtain ⟨rfl, rfl, ht⟩ := hcut
  have HT := Lib.hid ht
  have HC := Lib.hid (stopped_c cs s wc (HH.out.st.ext ht.x) HOK.out)
  clear ht
  go_upto_region 5 with (first | refine wpList_load_row rfl 28 _ rfl w.heap.size rfl 28 cs (0, 0) _ HT.out.b1 Tryd.underlying28 rfl (by rw [HS.out]; exact size28) ?_ | (go_at_call 31; refine HC.out.mono ?_; rw [HZ.out]; rintro e w1 ⟨rfl, hx1⟩; have HT1 := Lib.hid (HT.out.ext hx1); clear hx1))
  have HP0 := Lib.hid (two2_p0 HH.out HT1.out)
  have k0 : w1.cell? ⟨w.heap.size, 0, none⟩ = some (.slice (some ⟨b, o, none⟩) s.image.length c0) := (blk_cell HT1.out.b1 0).trans HE0.out
  have k1 : w1.cell? ⟨w.heap.size, 1, none⟩ = some (.int .i64 (p : Int)) := (blk_cell HT1.out.b1 1).trans (by rw [HH.out.st.at_, HP1.out])
  have z1 := blk_frozen HT1.out.b1 1
  have ky := HT1.out.x.cell HKY.out
  go_upto_region 14 with ((go_at_call 16; refine (In_c _ _ _ _).mono ?_; rintro e w' ⟨rfl, rfl⟩))
  go_cut [6] (fun s6 wx => s6 = .slice none 0 0 ∧ P0 bad w wx { s with at_ := (p : Int) + 1 } (cs.setIfInBounds 1 (.int .i64 ((p : Int) + 1))))
  case first =>
    go_wp2_with fail
    go_meet
    exact ⟨rfl, HP0.out.set (fun F h => at_set (n := (p : Int) + 1) h ⟨by omega, by omega⟩)⟩
  obtain ⟨rfl, hp0⟩ := hcut
  obtain ⟨w0, rfl⟩ : ∃ w0 : World, w0 = wc := ⟨_, rfl⟩
  have hlt0 := hp0.lt
  have k2 : w0.cell? ⟨w.heap.size, 2, none⟩ = some (.slice A2 s.data.length c2) := (blk_cell hp0.b1 2).trans (by rw [keyne (by decide)]; exact HE2.out)
  have HSL := Lib.hid (s2_ext HS2.out hp0.x)
  have HP2 := Lib.hid hp0
  clear hp0 k0 k1 z1 ky
  go_upto_region 16 with (at_builtin; refine wpList_append_sl rfl _ _ 23 rfl (w.heap.size + 2) 25 i0 (.int .u16 0) 1 2 Tryd.underlying23 HI.out HZ0.out HZ1.out HZ2.out rfl (by decide) _ 0 [] rfl (World.ownsRow_nil _ _ _ _) A2 s.data.length c2 (s.data.map (Value.int .u16)) rfl HSL.out (by simp) ints_one (by unfold maxLen; omega) (by omega) (by omega) ?_; intro v w2 ho hgr _hat; simp only [Nat.zero_add, List.nil_append] at ho; have HPR := Lib.hid (HP2.out.row ho hgr); obtain ⟨A, c, rfl, hnc, hcm, hA, hsl⟩ := own_sl ho; clear hgr ho _hat)
  clear k2
  have hlt2 := HPR.out.lt
  have hdu : s.data.length + 1 ≤ 16 := by have := HG.out.du; rw [show takesOf 22 = 0 from rfl, show leavesOf 22 = 1 from rfl] at this; omega
  obtain ⟨A5, c5, e5, l5, m5, q5, s5⟩ := HH.out.st.input
  rw [HIN0.out] at e5 l5 s5
  obtain ⟨b5, o5, x5, rfl, hx5, kx5⟩ := s5.at2 (show 0 < (xi :: ri).length by simp)
  have hxe : xi = x5 := by have := hx5.out; simpa using this
  subst hxe
  have hb5 := World.block_lt_of_cell? w _ kx5
  simp only at hb5
  have hn5 : ¬ b5 = w.heap.size := by omega
  have hn5' : ¬ w.heap.size = b5 := by omega
  have kx6 := HPR.out.x.cell kx5
  simp only [Nat.add_zero] at kx6
  have e5' : (cs.setIfInBounds 1 (.int .i64 ((p : Int) + 1)))[36]? = some (.slice (some ⟨b5, o5, none⟩) (ri.length + 1) c5) := by rw [keyne (by decide), e5]; rfl
  have k5 : w2.cell? ⟨w.heap.size, 36, none⟩ = some (.slice (some ⟨b5, o5, none⟩) (ri.length + 1) c5) := (blk_cell HPR.out.b1 36).trans e5'
  have z5 := blk_frozen HPR.out.b1 36
  have HE5 := Lib.hid e5'
  have bx : 0 ≤ xi ∧ xi < 256 := HOK.out.wf.input xi (by rw [HIN0.out]; simp)
  obtain ⟨bx0, bx1⟩ := bx
  have hbr : Byt ri := fun z hz => HOK.out.wf.input z (by rw [HIN0.out]; simp [hz])
  have HBR := Lib.hid hbr
  obtain ⟨i5, hi5, hz5, hz51, hz52⟩ := info_parts info5
  have hs5 : ∀ W : World, (Instr.slice 22 (.slice (some ⟨b5, o5, none⟩) (ri.length + 1) c5) (some (.int .i64 1)) none none).run Tryd.prog W = .ok (.slice (if c5 = 1 then some ⟨b5, o5, none⟩ else (some (⟨b5, o5, none⟩ : Addr)).map (·.add 1)) (ri.length + 1 - 1) (c5 - 1)) W := fun W => run_slice_from1 (P := Tryd.prog) W 22 5 i5 Tryd.underlying22 hi5 hz51 (some ⟨b5, o5, none⟩) (ri.length + 1) c5 .i64 (by omega)
  obtain ⟨A7, hA7⟩ : ∃ A7, (if c5 = 1 then some ⟨b5, o5, none⟩ else (some (⟨b5, o5, none⟩ : Addr)).map (·.add 1)) = A7 := ⟨_, rfl⟩
  rw [hA7] at hs5
  simp only [Nat.add_sub_cancel] at hs5
  have HSL7 : Hid (∀ F : World, SlAt F .u8 (some (.slice (some ⟨b5, o5, none⟩) (ri.length + 1) c5)) (xi :: ri) → SlAt F .u8 (some (.slice A7 ri.length (c5 - 1))) ri) := fun F hF => by
    obtain ⟨A', c', h1, h2, h3, h4, h5⟩ := hF
    injection h1 with h1
    injection h1 with f1 f2 f3
    subst f1; subst f3
    refine ⟨A7, c5 - 1, rfl, by simp at h2; omega, by omega, fun hn => ?_, ?_⟩
    · rw [← hA7] at hn
      split at hn <;> simp at hn
    · have := Sl.drop (k := .u8) (l := xi :: ri) h5 1 c5 h2
      rw [hA7] at this
      exact this
  have hrl2 : ri.length + 1 ≤ 1000 := by have := HOK.out.inl; rw [HIN0.out] at this; simpa using this
  clear e5 e5' s5 kx5 hi5 hz5 hz51 hz52 hbr hA7 l5 m5 q5
  go_upto_region 58 with (fail)
  refine wp_world (fun wx => Pre bad w wx { { s with at_ := (p : Int) + 1 } with input := ri } ((cs.setIfInBounds 1 (.int .i64 ((p : Int) + 1))).setIfInBounds 36 (.slice A7 ri.length (c5 - 1))) (.slice A s.data.length c) s.data) (HPR.out.set (fun F h => in_set (s := { s with at_ := (p : Int) + 1 }) h (HSL7.out F (by have := h.input; rw [HE5.out] at this; rw [show ({ s with at_ := (p : Int) + 1 } : St).input = xi :: ri from HIN0.out] at this; exact this)) HBR.out)) ?_
  intro w5 hp5
  have HP5 := Lib.hid hp5
  have hlt5 := hp5.lt
  clear hp5
  go_upto_region 63 with (at_builtin; refine wpList_append_sl rfl _ _ 23 rfl (w.heap.size + 2) 25 i0 (.int .u16 0) 1 2 Tryd.underlying23 HI.out HZ0.out HZ1.out HZ2.out rfl (by decide) _ s.data.length ((s.data).map (Value.int .u16)) rfl (HP5.out.own.alloc _) (some ⟨w5.heap.size, 0, none⟩) 1 1 [.int .u16 xi] rfl (slc_new w5 [.int .u16 xi] 25) rfl (by simp [Value.oneCell']) (by unfold maxLen; omega) (by omega) (by simp; omega) ?_; intro v3 w3 ho3 hg3 _h3; have HP3 := Lib.hid ((HP5.out.ext ((Ext.refl w5).alloc _)).row (l' := s.data ++ [xi]) (by rw [List.length_append, List.map_append]; exact ho3) hg3); obtain ⟨A3, c3, rfl, _, _, _, _⟩ := own_sl ho3; clear ho3 hg3 _h3)
  refine wp_world (fun wx => Mid bad w wx { { s with at_ := (p : Int) + 1 } with input := ri } ((cs.setIfInBounds 1 (.int .i64 ((p : Int) + 1))).setIfInBounds 36 (.slice A7 ri.length (c5 - 1))) (.slice A3 (s.data.length + 1) c3) (s.data ++ [xi])) HP3.out.mid ?_
  intro wf hm
  have HHALF : Hid (Half (s.data ++ [xi])) := half_append HOK.out.wf.data (half_cons ⟨by omega, by omega⟩ half_nil)
  have HEQ : Hid ({ { { s with at_ := (p : Int) + 1 } with input := ri } with data := (s.data ++ [xi]) } = r) := by
    show _ = r
    rw [← HR.out, stepF_go HZ.out HG.out.op]
    rw [show effF { s with at_ := s.at_ + 1 + sizeOp 22, data := s.data.take (s.data.length - (takesOf 22).toNat) } 22 (operandF s) (topF s.data 1) (topF s.data 0) = ([xi], { s with at_ := s.at_ + 1 + sizeOp 22, data := s.data.take (s.data.length - (takesOf 22).toNat), input := ri }) from by simp [effF, HIN0.out]]
    exact st_eq rfl (by show (p : Int) + 1 = s.at_ + 1 + sizeOp 22; rw [HP1.out]; have : sizeOp 22 = 0 := rfl; omega) (by show s.data ++ [xi] = s.data.take (s.data.length - 0) ++ [xi]; simp) rfl rfl rfl rfl rfl
  obtain ⟨A9, c9, e9, _⟩ := hm.is.data
  have k9 := (blk_cell hm.b1 2).trans e9
  have z9 := blk_frozen hm.b1 2
  have HB1 := Lib.hid (heap_set_bm hm.b1 2 (.slice A3 (s.data.length + 1) c3))
  have HB2 : Hid ((wf.setCell ⟨w.heap.size, 2, none⟩ (.slice A3 (s.data.length + 1) c3)).heap[w.heap.size + 1]? = some (.cells zeroSt 28 (0, 0))) := (set_other (by omega)).trans hm.b2
  have HST := Lib.hid (data_set hm.is (own_agr HBAD.out hm.own (fun _ _ _ _ _ => rfl)) HHALF.out)
  have HSB := Lib.hid HST.out.size
  have HO := Lib.hid (st_one HST.out)
  have HFIN := Lib.hid (hm.fin HBAD.out HHALF.out HEQ.out)
  clear hm e9
  obtain ⟨cz, hcz⟩ : ∃ cz, cz = ((cs.setIfInBounds 1 (.int .i64 ((p : Int) + 1))).setIfInBounds 36 (.slice A7 ri.length (c5 - 1))).setIfInBounds 2 (.slice A3 (s.data.length + 1) c3) := ⟨_, rfl⟩
  rw [← hcz] at HB1 HSB HO HFIN
  clear hcz HST
  go_wp2_with (first | refine wpList_load_row rfl 28 _ rfl w.heap.size rfl 28 cz (0, 0) _ HB1.out Tryd.underlying28 rfl (by rw [HSB.out]; exact size28) ?_ | refine wpList_store_row rfl 28 _ _ rfl (w.heap.size + 1) cz rfl rfl 28 zeroSt HB2.out (by rw [HSB.out]; exact size28) (by rw [HSB.out]; rfl) HO.out ?_)
  refine bodyPost_ret (results_one rfl _ _ (w.heap.size + 1) 28 cz (0, 0) _ rfl ?_ Tryd.underlying28 rfl (by rw [HSB.out]; exact size28)) rfl HFIN.out
  exact setRow_heap _ _ _ _ _ _ HB2.out
theorem stepR_23 (bad : Nat → Prop) (cs : Array Value) (s : St) (w : World) (hbad : ∀ g, bad g → g < w.heap.size) (h : StAv bad w cs s) (hok : OkSt s) (hz : stopOf s = 0) (hg : GoesOn s 23) : Calls Tryd.prog 26 #[.agg cs] w (SpRet bad w (stepF s)) := by
  have HH := Lib.hid h
  have HOK := Lib.hid hok
  have HS := Lib.hid h.st.size
  have HG := Lib.hid hg
  have HBAD := Lib.hid hbad
  have HZ := Lib.hid hz
  obtain ⟨r, hr⟩ : ∃ r, stepF s = r := ⟨_, rfl⟩
  rw [hr]
  have HR := Lib.hid hr
  have il := hok.il
  have dl := hok.dl
  have rl := hok.rl
  have ol := hok.ol
  have inl := hok.inl
  have a0 := hok.at0
  have a1 := hok.at1
  obtain ⟨p, hp⟩ : ∃ p : Nat, s.at_ = p := ⟨s.at_.toNat, by omega⟩
  have HP1 := Lib.hid hp
  have hpl : p < s.image.length := by have := hg.lt; omega
  have hdn : 1 ≤ s.data.length := by have := hg.dl; rw [show takesOf 23 = 1 from rfl] at this; omega
  rw [hp] at a0 a1
  obtain ⟨A0, c0, e0, _, _, _, s0⟩ := h.st.image
  obtain ⟨A2, c2, e2, _, _, q2, s2⟩ := h.st.data
  obtain ⟨b, o, y, rfl, hy, ky⟩ := s0.at2 hpl
  have hyk : y = 23 := by have := hg.op; unfold opOf at this; rw [hp] at this; simp only [Int.toNat_natCast] at this; rw [hy.out] at this; exact this
  subst hyk
  have hbB := World.block_lt_of_cell? w _ ky
  simp only at hbB
  have hne : ¬ b = w.heap.size := by omega
  have hne' : ¬ w.heap.size = b := by omega
  have HE0 := Lib.hid e0
  have HE2 := Lib.hid e2
  have HS2 := Lib.hid s2
  have HKY := Lib.hid ky
  have hin : inB 23 16 18 = false := rfl
  clear h hok hz hr hp hg hbad e0 e2 s0 s2 ky
  obtain ⟨i0, hi, hz0, hz1, hz2⟩ := info_parts info25
  have HI := Lib.hid hi
  have HZ0 := Lib.hid hz0
  have HZ1 := Lib.hid hz1
  have HZ2 := Lib.hid hz2
  clear hi hz0 hz1 hz2
  go_enter Tryd.func26, Tryd.ntmps26
  go_upto_region 0 with (fail)
  go_cut [1, 2] (fun s1 s2 wx => s1 = .pointer (some ⟨w.heap.size, 0, none⟩) ∧ s2 = .pointer (some ⟨w.heap.size + 1, 0, none⟩) ∧ Two2 w wx cs)
  case first =>
    go_wp2_with fail
    go_meet
    exact ⟨rfl, rfl, zeroSt_lit ▸ two2_mk w cs⟩
  obtain ⟨rfl, rfl, ht⟩ := hcut
  have HT := Lib.hid ht
  have HC := Lib.hid (stopped_c cs s wc (HH.out.st.ext ht.x) HOK.out)
  clear ht
  go_upto_region 5 with (first | refine wpList_load_row rfl 28 _ rfl w.heap.size rfl 28 cs (0, 0) _ HT.out.b1 Tryd.underlying28 rfl (by rw [HS.out]; exact size28) ?_ | (go_at_call 31; refine HC.out.mono ?_; rw [HZ.out]; rintro e w1 ⟨rfl, hx1⟩; have HT1 := Lib.hid (HT.out.ext hx1); clear hx1))
  have HP0 := Lib.hid (two2_p0 HH.out HT1.out)
  have k0 : w1.cell? ⟨w.heap.size, 0, none⟩ = some (.slice (some ⟨b, o, none⟩) s.image.length c0) := (blk_cell HT1.out.b1 0).trans HE0.out
  have k1 : w1.cell? ⟨w.heap.size, 1, none⟩ = some (.int .i64 (p : Int)) := (blk_cell HT1.out.b1 1).trans (by rw [HH.out.st.at_, HP1.out])
  have z1 := blk_frozen HT1.out.b1 1
  have ky := HT1.out.x.cell HKY.out
  go_upto_region 14 with ((go_at_call 16; refine (In_c _ _ _ _).mono ?_; rintro e w' ⟨rfl, rfl⟩))
  go_cut [6] (fun s6 wx => s6 = .slice none 0 0 ∧ P0 bad w wx { s with at_ := (p : Int) + 1 } (cs.setIfInBounds 1 (.int .i64 ((p : Int) + 1))))
  case first =>
    go_wp2_with fail
    go_meet
    exact ⟨rfl, HP0.out.set (fun F h => at_set (n := (p : Int) + 1) h ⟨by omega, by omega⟩)⟩
  obtain ⟨rfl, hp0⟩ := hcut
  obtain ⟨w0, rfl⟩ : ∃ w0 : World, w0 = wc := ⟨_, rfl⟩
  have hlt0 := hp0.lt
  have k2 : w0.cell? ⟨w.heap.size, 2, none⟩ = some (.slice A2 s.data.length c2) := (blk_cell hp0.b1 2).trans (by rw [keyne (by decide)]; exact HE2.out)
  have HSL := Lib.hid (s2_ext HS2.out hp0.x)
  have HP2 := Lib.hid hp0
  clear hp0 k0 k1 z1 ky
  go_upto_region 16 with (at_builtin; refine wpList_append_sl rfl _ _ 23 rfl (w.heap.size + 2) 25 i0 (.int .u16 0) 1 2 Tryd.underlying23 HI.out HZ0.out HZ1.out HZ2.out rfl (by decide) _ 0 [] rfl (World.ownsRow_nil _ _ _ _) A2 s.data.length c2 (s.data.map (Value.int .u16)) rfl HSL.out (by simp) ints_one (by unfold maxLen; omega) (by omega) (by omega) ?_; intro v w2 ho hgr _hat; simp only [Nat.zero_add, List.nil_append] at ho; have HPR := Lib.hid (HP2.out.row ho hgr); obtain ⟨A, c, rfl, hnc, hcm, hA, hsl⟩ := own_sl ho; clear hgr ho _hat)
  clear k2
  have hlt2 := HPR.out.lt
  obtain ⟨gd, rfl, hgd⟩ := own_head HPR.out.own (by omega)
  obtain ⟨t1, ht1⟩ : ∃ t, s.data[s.data.length - 1]? = some t := ⟨_, List.getElem?_eq_getElem (by omega)⟩
  have kt1 : w2.cell? ⟨gd, s.data.length - 1, none⟩ = some (.int .u16 t1) := (HPR.out.own.cellAt (s.data.length - 1) (by omega)).trans (by rw [List.getElem?_map, ht1]; rfl)
  have bt1 : 0 ≤ t1 ∧ t1 < 65536 := HOK.out.wf.data t1 (List.mem_of_getElem? ht1)
  obtain ⟨b10, b11⟩ := bt1
  have HT1' : Hid (topF s.data 0 = t1) := top_at (i := 0) (by rw [Nat.sub_zero]; exact ht1) (by omega)
  have HTT1 := Lib.hid ht1
  have i1 : ((s.data.length : Int) - 1).toNat = s.data.length - 1 := by omega
  have i2 : 0 ≤ (s.data.length : Int) - 1 := by omega
  have i3 : (s.data.length : Int) - 1 < s.data.length := by omega
  clear ht1
  have hs1 : ∀ W : World, (Instr.slice 23 (.slice (some ⟨gd, 0, none⟩) s.data.length c) none (some (.int .i64 ((s.data.length : Int) - 1))) none).run Tryd.prog W = .ok (.slice (some ⟨gd, 0, none⟩) (s.data.length - 1) c) W := fun W => by have := run_slice_to (P := Tryd.prog) W 23 25 i0 Tryd.underlying23 HI.out (some ⟨gd, 0, none⟩) s.data.length c (s.data.length - 1) .i64 (by omega); rw [show ((s.data.length - 1 : Nat) : Int) = (s.data.length : Int) - 1 from by omega] at this; exact this
  have ho9 : s.output.length < 1000 := HG.out.out rfl
  obtain ⟨A4, c4, e4, _, _, _, s4⟩ := HH.out.st.output
  have e4' : (cs.setIfInBounds 1 (.int .i64 ((p : Int) + 1)))[37]? = some (.slice A4 s.output.length c4) := by rw [keyne (by decide)]; exact e4
  have k3b : w2.cell? ⟨w.heap.size, 37, none⟩ = some (.slice A4 s.output.length c4) := (blk_cell HPR.out.b1 37).trans e4'
  obtain ⟨i4, hi4, hz4, hz41, hz42⟩ := info_parts info5
  have HI4 := Lib.hid hi4
  have HZ4 := Lib.hid hz4
  have HZ41 := Lib.hid hz41
  have HZ42 := Lib.hid hz42
  have HS4 := Lib.hid (s4.ext HPR.out.x)
  have HE4 := Lib.hid e4'
  have hw1 : IntKind.u8.wrap (t1 % 256) = t1 % 256 := by rw [IntKind.wrap_u8]; omega
  clear e4 e4' s4 hi4 hz4 hz41 hz42
  go_upto_region 61 with (at_builtin; refine wpList_append_sl rfl _ _ 22 rfl (w.heap.size + 2) 5 i4 (.int .u8 0) 1 1 Tryd.underlying22 HI4.out HZ4.out HZ41.out HZ42.out rfl (by decide) _ 0 [] rfl (World.ownsRow_nil _ _ _ _) A4 s.output.length c4 (s.output.map (Value.int .u8)) rfl HS4.out (by simp) ints_one (by unfold maxLen; omega) (by omega) (by omega) ?_; intro v4 w4 ho4 hg4 _h4; simp only [Nat.zero_add, List.nil_append] at ho4; have HP4 := Lib.hid (HPR.out.ext (grown_ext hg4)); have HO4 := Lib.hid ho4; obtain ⟨A6, c6, rfl, _, _, _, _⟩ := own_sl ho4; have kt4 := (grown_ext hg4).cell kt1; clear ho4 hg4 _h4)
  have hlt4 := HP4.out.lt
  clear k3b kt1
  go_upto_region 62 with (at_builtin; refine wpList_append_sl rfl _ _ 22 rfl (w.heap.size + 2) 5 i4 (.int .u8 0) 1 1 Tryd.underlying22 HI4.out HZ4.out HZ41.out HZ42.out rfl (by decide) _ s.output.length (s.output.map (Value.int .u8)) rfl (HO4.out.alloc _) (some ⟨w4.heap.size, 0, none⟩) 1 1 [.int .u8 (t1 % 256)] rfl (slc_new w4 [.int .u8 (t1 % 256)] 5) rfl (by simp [Value.oneCell']) (by unfold maxLen; omega) (by omega) (by simp; omega) ?_; intro v5 w5 ho5 hg5 _h5; have HP5 := Lib.hid ((HP4.out.ext ((Ext.refl w4).alloc _)).side (HO4.out.alloc _) (by decide) hg5); have HO5 : Hid (w5.ownsRow (w.heap.size + 2) 5 1 v5 (s.output ++ [t1 % 256]).length ((s.output ++ [t1 % 256]).map (Value.int .u8))) := (by rw [List.length_append, List.map_append]; exact ho5); obtain ⟨A7, c7, rfl, _, _, _, _⟩ := own_sl ho5; have k3c := (blk_cell HP5.out.b1 37).trans HE4.out; have z3c := blk_frozen HP5.out.b1 37; clear ho5 hg5 _h5)
  go_upto_region 63 with (fail)
  refine wp_world (fun wx => Mid bad w wx { { s with at_ := (p : Int) + 1 } with output := s.output ++ [t1 % 256] } ((cs.setIfInBounds 1 (.int .i64 ((p : Int) + 1))).setIfInBounds 37 (.slice A7 (s.output.length + 1) c7)) (.slice (some ⟨gd, 0, none⟩) (s.data.length - 1) c) (s.data.take (s.data.length - 1))) ((HP5.out.mid.set (fun F hA h => out_set (s := { s with at_ := (p : Int) + 1 }) h (own_agr HBAD.out HO5.out hA) (fun x hx => (List.mem_append.1 hx).elim (fun hx => HOK.out.wf.output x hx) (fun hx => by rw [List.mem_singleton.1 hx]; exact ⟨by omega, by omega⟩)))).cut (by omega)) ?_
  intro wf hm
  have HHALF : Hid (Half (s.data.take (s.data.length - 1))) := fun x hx => HOK.out.wf.data x (List.mem_of_mem_take hx)
  have HEQ : Hid ({ { { s with at_ := (p : Int) + 1 } with output := s.output ++ [t1 % 256] } with data := (s.data.take (s.data.length - 1)) } = r) := by
    show _ = r
    rw [← HR.out, stepF_go HZ.out HG.out.op]
    exact st_eq rfl (by show (p : Int) + 1 = s.at_ + 1 + sizeOp 23; rw [HP1.out]; have : sizeOp 23 = 0 := rfl; omega) (by show s.data.take (s.data.length - 1) = s.data.take (s.data.length - 1) ++ []; simp) rfl rfl rfl (by show s.output ++ [t1 % 256] = s.output ++ [topF s.data 0 % 256]; rw [HT1'.out]) rfl
  obtain ⟨A9, c9, e9, _⟩ := hm.is.data
  have k9 := (blk_cell hm.b1 2).trans e9
  have z9 := blk_frozen hm.b1 2
  have HB1 := Lib.hid (heap_set_bm hm.b1 2 (.slice (some ⟨gd, 0, none⟩) (s.data.length - 1) c))
  have HB2 : Hid ((wf.setCell ⟨w.heap.size, 2, none⟩ (.slice (some ⟨gd, 0, none⟩) (s.data.length - 1) c)).heap[w.heap.size + 1]? = some (.cells zeroSt 28 (0, 0))) := (set_other (by omega)).trans hm.b2
  have HST := Lib.hid (data_set hm.is (own_agr HBAD.out hm.own (fun _ _ _ _ _ => rfl)) HHALF.out)
  have HSB := Lib.hid HST.out.size
  have HO := Lib.hid (st_one HST.out)
  have HFIN := Lib.hid (hm.fin HBAD.out HHALF.out HEQ.out)
  clear hm e9
  obtain ⟨cz, hcz⟩ : ∃ cz, cz = ((cs.setIfInBounds 1 (.int .i64 ((p : Int) + 1))).setIfInBounds 37 (.slice A7 (s.output.length + 1) c7)).setIfInBounds 2 (.slice (some ⟨gd, 0, none⟩) (s.data.length - 1) c) := ⟨_, rfl⟩
  rw [← hcz] at HB1 HSB HO HFIN
  clear hcz HST
  go_wp2_with (first | refine wpList_load_row rfl 28 _ rfl w.heap.size rfl 28 cz (0, 0) _ HB1.out Tryd.underlying28 rfl (by rw [HSB.out]; exact size28) ?_ | refine wpList_store_row rfl 28 _ _ rfl (w.heap.size + 1) cz rfl rfl 28 zeroSt HB2.out (by rw [HSB.out]; exact size28) (by rw [HSB.out]; rfl) HO.out ?_)
  refine bodyPost_ret (results_one rfl _ _ (w.heap.size + 1) 28 cz (0, 0) _ rfl ?_ Tryd.underlying28 rfl (by rw [HSB.out]; exact size28)) rfl HFIN.out
  exact setRow_heap _ _ _ _ _ _ HB2.out
end Go.Proofs.YtpooedfchjpndaaDoor
