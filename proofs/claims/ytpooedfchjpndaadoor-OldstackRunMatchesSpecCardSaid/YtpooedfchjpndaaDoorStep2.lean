import Derived.Test.YtpooedfchjpndaaDoorStepL
namespace Go.Proofs.YtpooedfchjpndaaDoor
open Go Go.Proofs Go.RowKit
set_option maxHeartbeats 3200000
set_option maxRecDepth 100000
theorem callFunc30 (vs : Array Value) (W : World) : (callFunc 30 vs).run Tryd.prog W = .ok (.enter 30 vs) W := by kernel_rfl
section
variable {w : World} {bm : Nat} {s : St} {cs : Array Value} {vd vr vo : Value}
theorem step_d (h : MachIs w bm s cs vd vr vo) (k : OkSt s) (ht : Tabs w) (hb2 : 2 ≤ bm) (hs : ¬ (s.image.length : Int) ≤ s.at_) (ho : ¬ 24 ≤ opOf s) (hz : stopOf s = 0) : Calls Tryd.prog 25 #[.pointer (some ⟨bm, 0, none⟩)] w (StepRet w bm (stepF s)) := by
  obtain ⟨A0, c0, e1, e2, e3, e4, e5⟩ := h.image
  have a0 := k.at0
  have a1 := k.at1
  have hsl : Sl w .u8 A0 s.image := e5.sl
  obtain ⟨b, o, x, rfl, hx, hcell⟩ := hsl.at2 (i := s.at_.toNat) (by omega)
  have hop : opOf s = x := by unfold opOf; rw [hx.out]; rfl
  have hso := stop_obst hs ho
  rw [hop] at ho hso
  have hxb : 0 ≤ x ∧ x < 256 := k.wf.image x (List.mem_of_getElem? hx.out)
  obtain ⟨x0, x1⟩ := hxb
  have hw := wrap64_u16 (b := x) x0 (by omega)
  have HH := Lib.hid h
  obtain ⟨A2, c2, v2, l2, m2, n2, s2⟩ := own_sl h.datao
  obtain ⟨A3, c3, v3, l3, m3, n3, s3⟩ := own_sl h.reto
  obtain ⟨A6, c6, v6, l6, m6, n6, s6⟩ := own_sl h.outputo
  have tr := tabs_range (op := x) x0 (by omega)
  have sr := sizeOp_range x
  have hil := k.il
  have k0 : w.cell? ⟨bm, 0, none⟩ = some (.slice (some ⟨b, o, none⟩) s.image.length c0) := by rw [h.cell, e1]
  have k1 : w.cell? ⟨bm, 1, none⟩ = some (.int .i64 s.at_) := by rw [h.cell, h.at_]
  have f1 := h.frozen 1
  have hob := fun n => obstacle_c bm x (s.at_ + 1 + sizeOp x) (takesOf x) (leavesOf x) (some ⟨b, o, none⟩) A2 A3 A6 s.data s.image.length s.ret.length s.output.length c0 c2 c3 c6 (w.drewN n) ⟨x0, by omega⟩ (by omega) tr.1 tr.2 k.dl k.wf.data k.il k.rl k.ol
    k0 (by rw [World.cell?_drewN, h.cell, h.data, v2]) s2 (by rw [World.cell?_drewN, h.cell, h.ret, v3]) (by rw [World.cell?_drewN, h.cell, h.output, v6]) (ht.1 _ (by omega)) (ht.2 _ (by omega))
  rw [← hso, hz] at hob
  have HOB := Lib.hid hob
  obtain ⟨at', hat⟩ : ∃ n : Nat, s.at_ = n := ⟨s.at_.toNat, by omega⟩
  obtain ⟨sz, hsz⟩ : ∃ sz : Nat, sizeOp x = sz := ⟨(sizeOp x).toNat, by omega⟩
  have hos := fun W => operandSize_c x W
  rw [hsz] at sr
  simp only [hsz] at hos HOB
  rw [hat] at HOB k1 a0 a1 hs
  have hcell' : w.cell? ⟨b, o + at', none⟩ = some (.int .u8 x) := by rw [← hcell, hat]; rfl
  have HOS := Lib.hid hos
  obtain ⟨sr0, sr1⟩ := sr
  have hbeh : at' + 1 + sz ≤ s.image.length := by
    have : ¬ (s.image.length : Int) < s.at_ + 1 + sizeOp x := by
      intro hc
      have : stopOf s = 3 := by rw [hso]; unfold obstF; rw [if_pos hc]
      omega
    omega
  obtain ⟨i0, hi, hz0, hz1, hz2⟩ := info_parts info5
  obtain ⟨A', hA'⟩ : ∃ A', (if c0 = at' + 1 then some ⟨b, o, none⟩ else (some (⟨b, o, none⟩ : Addr)).map (·.add (at' + 1))) = A' := ⟨_, rfl⟩
  have ks : ∀ W : World, (Instr.slice 22 (.slice (some ⟨b, o, none⟩) s.image.length c0) (some (.int .i64 ((at' : Int) + 1))) (some (.int .i64 ((at' : Int) + 1 + (sz : Int)))) none).run Tryd.prog W = .ok (.slice A' sz (c0 - (at' + 1))) W := fun W => by
    have := run_slice_lh' (P := Tryd.prog) W 22 5 i0 Tryd.underlying22 hi hz1 (some ⟨b, o, none⟩) s.image.length c0 (at' + 1) (at' + 1 + sz) .i64 .i64 (by omega) (by omega)
    rw [hA', show at' + 1 + sz - (at' + 1) = sz from by omega] at this
    rw [← this]
    congr 4
  obtain ⟨bs, hbs⟩ : ∃ bs : List Int, bs = (s.image.drop (at' + 1)).take sz := ⟨_, rfl⟩
  have hbl : bs.length = sz := by rw [hbs]; simp; omega
  have hss : Sl w .u8 A' bs := by
    refine Sl.mk fun i y hy => ?_
    have hlt : i < sz := by
      rcases Nat.lt_or_ge i bs.length with hl | hl
      · omega
      · rw [List.getElem?_eq_none hl] at hy; cases hy
    rw [hbs, List.getElem?_take, if_pos hlt, List.getElem?_drop] at hy
    obtain ⟨ad, h1, h2⟩ := hsl.one hy
    cases h1
    rw [if_neg (by omega)] at hA'
    refine ⟨_, hA'.symm, ?_⟩
    rw [add_add]; exact h2
  have hbb : Byt bs := fun y hy => k.wf.image y (by rw [hbs] at hy; exact List.mem_of_mem_drop (List.mem_of_mem_take hy))
  have HBS := Lib.hid hbs
  have HBL := Lib.hid hbl
  have HA := Lib.hid hA'
  have HSZ := Lib.hid hsz
  have HAT := Lib.hid hat
  have HOP := Lib.hid hop
  have HT := Lib.hid ht
  have HZ := Lib.hid hz
  have HSO := Lib.hid (hso.symm.trans hz)
  have TR := tr
  obtain ⟨⟨tr1, tr2⟩, tr3, tr4⟩ := TR
  have dd : decide (24 ≤ x) = false := by simpa using ho
  clear e1 h hop hsl e5 hso hob hsz hos ht tr v3 v6 s3 s6 hbs hbl hA' hat hcell hz v2
  go_enter Tryd.func25, Tryd.ntmps25
  go_wp2
  go_quiet (fail)
  go_wp2
  go_quiet (fail)
  go_wp2
  go_quiet ((go_at_call 27; exact quiet_add' HOS.out))
  go_wp2_with (go_at_call 28; refine (HOB.out _).mono ?_; rintro e w' ⟨rfl, n, rfl⟩)
  go_quiet (fail)
  go_wp2
  go_loop [5, 79] (fun v5 i => ∃ j : Nat, j ≤ sz ∧ i = .int .i64 j ∧ v5 = .int .i64 (opnd (bs.take j))) (fun _ i => sz - (intOf i).toNat)
  case atStart => exact ⟨0, Nat.zero_le _, rfl, rfl⟩
  case round =>
    obtain ⟨j, hj, rfl, rfl⟩ := hrel
    by_cases hlt : j < sz
    · obtain ⟨b', o', y, rfl, hy, hc'⟩ := hss.at2 (i := j) (by rw [HBL.out]; exact hlt)
      have hyb := hbb y (List.mem_of_getElem? hy.out)
      have hv := opnd_small hbb (j := j) (by omega)
      have hst := opnd_step hy.out
      obtain ⟨v, hve⟩ : ∃ v, opnd (bs.take j) = v := ⟨_, rfl⟩
      rw [hve] at hv hst ⊢
      have HST := Lib.hid hst
      obtain ⟨y0, y1⟩ := hyb
      obtain ⟨v0, v1⟩ := hv
      have hwy := wrap64_u16 (b := y) y0 (by omega)
      clear hve hst
      have hor := or_byte v0 v1 y0 y1
      go_wp2
      refine ⟨⟨_, _, _, ⟨j + 1, by omega, rfl, ?_⟩, rfl, rfl, by go_num⟩, by simp [intOf]; omega⟩
      rw [HST.out]
    · have hje : j = sz := by omega
      subst hje
      have hov : opnd (bs.take j) = operandF s := by
        rw [List.take_of_length_le (by rw [HBL.out]; omega), HBS.out]
        exact opnd_operand HAT.out HSZ.out HOP.out hbeh
      rw [hov]
      clear hov
      go_upto_region 15 with (fail)
      go_cut [] (fun wx => ∃ csx, MachIs wx bm { s with at_ := (at' : Int) + 1 + (j : Int) } csx vd vr vo ∧ Below bm w wx)
      case first =>
        go_wp2
        go_meet
        exact ⟨_, setAt (HH.out.drewN _) _, (belowN w bm _).trans (below_set _ _ _ _)⟩
      case rest =>
        obtain ⟨csx, hmx, hbx⟩ := hcut
        obtain ⟨A2x, c2x, v2x, l2x, m2x, n2x, s2x⟩ := own_sl hmx.datao
        have kx2 : wc.cell? ⟨bm, 2, none⟩ = some (.slice A2x s.data.length c2x) := by rw [hmx.cell, hmx.data, v2x]
        have fx2 := hmx.frozen 2
        have l2x' : s.data.length ≤ c2x := l2x
        have htx := (HT.out.below hbx hb2).1 x.toNat (by omega)
        have hdl := k.dl
        obtain ⟨tn, htn⟩ : ∃ tn : Nat, takesOf x = tn := ⟨(takesOf x).toNat, by omega⟩
        have htx' : wc.cell? ⟨0, x.toNat, none⟩ = some (.int .i64 (tn : Int)) := by rw [htx, ← htn]; rfl
        have htl : tn ≤ s.data.length ∧ tn ≤ 2 := by
          have h1 : ¬ (s.data.length : Int) < takesOf x := by
            intro hc
            have := HSO.out
            unfold obstF at this
            rw [if_neg (by omega), if_pos (Or.inl hc)] at this
            omega
          omega
        obtain ⟨ht1', ht2'⟩ := htl
        obtain ⟨i1, hi1, hz01, hz11, hz21⟩ := info_parts info25
        have ks2 : ∀ W : World, (Instr.slice 23 (.slice A2x s.data.length c2x) none (some (.int .i64 ((s.data.length : Int) - (tn : Int)))) none).run Tryd.prog W = .ok (.slice A2x (s.data.length - tn) c2x) W := fun W => by
          have := run_slice_to (P := Tryd.prog) W 23 25 i1 Tryd.underlying23 hi1 A2x s.data.length c2x (s.data.length - tn) .i64 (by omega)
          rwa [show ((s.data.length - tn : Nat) : Int) = (s.data.length : Int) - (tn : Int) from by omega] at this
        have HTN := Lib.hid htn
        clear htx htn
        have htop := fun d (hd : d ≤ 10) => top_c bm A2x s.data c2x d wc hd (by omega) kx2 s2x
        have ht0 := htop 0 (by omega)
        have ht1 := htop 1 (by omega)
        obtain ⟨b0, hb0⟩ : ∃ q, topF s.data 0 = q := ⟨_, rfl⟩
        obtain ⟨b1, hb1⟩ : ∃ q, topF s.data 1 = q := ⟨_, rfl⟩
        rw [hb0] at ht0
        rw [hb1] at ht1
        have HT0 := Lib.hid ht0
        have HT1 := Lib.hid ht1
        have HMX := Lib.hid hmx
        have HBX := Lib.hid hbx
        have HB0 := Lib.hid hb0
        have HB1 := Lib.hid hb1
        have HV2 := Lib.hid v2x
        clear hmx hbx htop ht0 ht1 hb0 hb1 v2x s2x
        go_wp2_with (first | (go_at_call_of 29 (Value.int .i64 0); refine HT0.out.mono ?_; rintro e w' ⟨rfl, rfl⟩) | (go_at_call_of 29 (Value.int .i64 1); refine HT1.out.mono ?_; rintro e w' ⟨rfl, rfl⟩))
        go_upto_region 17 with (fail)
        go_cut [] (fun wx => ∃ csx vdx, MachIs wx bm { s with at_ := (at' : Int) + 1 + (j : Int), data := s.data.take (s.data.length - tn) } csx vdx vr vo ∧ Below bm w wx)
        case first =>
          go_region
          all_goals go_wp2_with fail
          all_goals go_meet
          all_goals exact ⟨_, _, step_trunc HMX.out HV2.out (n := s.data.length - tn) (Nat.sub_le _ _), (HBX.out.trans (below_set _ bm 2 _)).drew⟩
        case rest =>
          obtain ⟨csy, vdy, hmy, hby⟩ := hcut
          obtain ⟨A2y, c2y, v2y, l2y, m2y, n2y, s2y⟩ := own_sl hmy.datao
          have heo : EffOk { s with at_ := (at' : Int) + 1 + (j : Int), data := s.data.take (s.data.length - tn) } x (operandF s) b1 b0 := eff_ok k HSO.out HZ.out HOP.out HB0.out HB1.out x0 (by omega)
          have hmd : MachIs wc.drew bm { s with at_ := (at' : Int) + 1 + (j : Int), data := s.data.take (s.data.length - tn) } csy vdy vr vo := hmy.ext ((Ext.refl _).drew)
          have hef := effects_c hmd x (operandF s) b1 b0 heo
          have hfin : stepF s = { (effF { s with at_ := (at' : Int) + 1 + (j : Int), data := s.data.take (s.data.length - tn) } x (operandF s) b1 b0).2 with data := (effF { s with at_ := (at' : Int) + 1 + (j : Int), data := s.data.take (s.data.length - tn) } x (operandF s) b1 b0).2.data ++ (effF { s with at_ := (at' : Int) + 1 + (j : Int), data := s.data.take (s.data.length - tn) } x (operandF s) b1 b0).1 } := by
            have q1 : s.at_ + 1 + sizeOp (opOf s) = (at' : Int) + 1 + (j : Int) := by rw [HAT.out, HOP.out, HSZ.out]
            have q2 : (takesOf (opOf s)).toNat = tn := by rw [HOP.out, HTN.out]; rfl
            unfold stepF
            rw [if_pos HZ.out, q1, q2, HOP.out, HB0.out, HB1.out]
          have hrl := eff_len { s with at_ := (at' : Int) + 1 + (j : Int), data := s.data.take (s.data.length - tn) } x (operandF s) b1 b0
          have hrd := eff_data { s with at_ := (at' : Int) + 1 + (j : Int), data := s.data.take (s.data.length - tn) } x (operandF s) b1 b0
          obtain ⟨r, hr⟩ : ∃ r, effF { s with at_ := (at' : Int) + 1 + (j : Int), data := s.data.take (s.data.length - tn) } x (operandF s) b1 b0 = r := ⟨_, rfl⟩
          rw [hr] at hef hrl hrd hfin
          have HFIN := Lib.hid hfin
          have hrd' : r.2.data.length ≤ 16 := by rw [hrd]; simp; omega
          have ky2 : wc.cell? ⟨bm, 2, none⟩ = some (.slice A2y (s.data.take (s.data.length - tn)).length c2y) := by rw [hmy.cell, hmy.data, v2y]
          have fy2 := hmy.frozen 2
          have v2y' : vdy = .slice A2y r.2.data.length c2y := by rw [hrd]; exact v2y
          have ky2' : wc.cell? ⟨bm, 2, none⟩ = some (.slice A2y r.2.data.length c2y) := by rw [hrd]; exact ky2
          clear v2y ky2
          have hlt := hmy.lt
          have HEF := Lib.hid hef
          have HV2Y := Lib.hid v2y'
          have HBY := Lib.hid hby
          clear hfin hr hef heo hmd hmy hby hrd v2y' s2y
          go_wp2
          go_region_law (first
            | ((refine step_append_sl rfl _ _ 23 rfl bm 25 i1 (.int .u16 0) 1 2 Tryd.underlying23 hi1 hz01 hz11 hz21 rfl (by decide) _ r.2.data.length (r.2.data.map (Value.int .u16)) (by simp [Act.eval]) (HM2.out) A r.1.length c (r.1.map (Value.int .u16)) (by simp [Act.eval]) hsl (by simp) ints_one (by unfold maxLen; omega) (by omega) (by omega) ?_; intro v' w1 ho3 hg3 hat3; obtain ⟨A3', c3', rfl, _, _, _, _⟩ := own_sl ho3; have kk : w1.cell? ⟨bm, 2, none⟩ = some (.slice A2y r.2.data.length c2y) := data_cell HMM.out HV2Y.out hg3; have kf : w1.frozen? ⟨bm, 2, none⟩ = false := data_frozen HMM.out HV2Y.out hg3))
            | ((refine step_call rfl 30 _ _ rfl _ (by simp [Act.eval, Act.put]) (fun W => callFunc30 _ W) HEF.out ?_; rintro e w2 ⟨A, c, cs', vr', vo', rfl, hsl, hm2, hb3⟩; refine ⟨_, rfl, ?_⟩; have q1 : w2.cell? ⟨bm, 2, none⟩ = some (.slice A2y r.2.data.length c2y) := (by rw [hm2.cell, hm2.data, HV2Y.out]); have q2 := hm2.frozen 2; have HM2 := Lib.hid (by have := hm2.datao; rwa [HV2Y.out] at this : w2.ownsRow bm 25 1 (.slice A2y r.2.data.length c2y) r.2.data.length (r.2.data.map (Value.int .u16))); have HMM := Lib.hid hm2; have hl2 := hm2.lt; have HB3 := Lib.hid hb3; clear hm2 hb3)))
          all_goals (
            have HM3 := Lib.hid (HMM.out.newData (step_row ho3 hg3 hat3 HV2Y.out))
            have HB4 := Lib.hid (hg3_below HMM.out HV2Y.out hg3)
            clear ho3 hg3 hat3 hsl
            go_wp2
            refine bodyPost_ret (results_none' rfl _ _ _) rfl ?_
            exact ⟨_, _, vr', vo', rfl, by rw [HFIN.out]; exact HM3.out, ((((HBY.out).drew).trans HB3.out).trans HB4.out).trans (below_set _ bm 2 _)⟩)
end
end Go.Proofs.YtpooedfchjpndaaDoor
