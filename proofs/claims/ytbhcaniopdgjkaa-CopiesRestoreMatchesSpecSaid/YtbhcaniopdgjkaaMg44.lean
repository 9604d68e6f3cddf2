import Derived.Test.YtbhcaniopdgjkaaMg41
namespace Go.Proofs.Ytbhcaniopdgjkaa
open Go Go.Proofs Go.RowKit
open Plain (SiteD)
set_option maxHeartbeats 4000000
set_option maxRecDepth 100000
theorem law11_c (A C D : Option Addr) (L : List SiteD) (ch lost : List Int) (c1 c2 c3 : Nat) (losses left : Int) (w : World) (hL : L.length ≤ c1) (hc1 : c1 ≤ maxLen) (hc : ch.length ≤ maxLen) (hd : lost.length ≤ maxLen) (h1 : Sites w A L) (hg : Glob w) (h2 : Sl w .i64 C ch) (h3 : Sl w .i64 D lost) :
    Calls Try.prog 11 #[.slice A L.length c1, .slice C ch.length c2, .slice D lost.length c3, .int .i64 losses, .int .i64 left] w (BRet w true) := by
  have HCS := Lib.hid (fun w1 (x : Ext w w1) => chosen_c w1 (hg.ext x))
  have HMA := Lib.hid (Restore_c A C D L ch lost c1 c2 c3 losses left w hL hc hd h1 hg h2 h3)
  have HSF := Lib.hid (fun w1 (x : Ext w w1) => ChosenFault_c A C L ch c1 c2 w1 hc (by unfold maxLen at hc1; omega) (h1.ext x) (h2.ext x))
  have HRI := Lib.hid (fun w1 (x : Ext w w1) => rising_x D lost c3 12 w1 hd (by omega) (h3.ext x))
  have HLI := Lib.hid (fun w1 => limits_c losses left (-4) w1 (by omega))
  have HAO := Lib.hid (fun w1 => AllOf_c A L.length c1 w1)
  have HLO := Lib.hid (fun (h : restFault L ch lost losses left = (0, 0)) w1 (x : Ext w w1) => leftOf_law A C D L ch lost c1 c2 c3 w1 hd (h1.ext x) (h2.ext x) (h3.ext x) (restFault_ok h).1)
  have HLA := Lib.hid (fun (h : restFault L ch lost losses left = (0, 0)) w1 (x : Ext w w1) R c (hs : Sl w1 .i64 R (upTo L.length)) => leftOf_law A R D L (upTo L.length) lost c1 c c3 w1 hd (h1.ext x) hs (h3.ext x) (leftFault_all (restFault_ok h).1))
  have HWI := Lib.hid (fun (h : restFault L ch lost losses left = (0, 0)) w1 (U R : Option Addr) (u r : Nat) (hu : Sl w1 .i64 U (Plain.leftF L (upTo L.length) lost)) (hr : Sl w1 .i64 R (Plain.leftF L ch lost)) => Without_c U R (Plain.leftF L (upTo L.length) lost) (Plain.leftF L ch lost) u r w1 (left_len1 h) (left_len2 h) hu hr)
  have HCH := Lib.hid (fun (h : restFault L ch lost losses left = (0, 0)) w1 (x : Ext w w1) T R t c ht hs => spec_rest_c A L ch lost c1 losses left w h1 h w1 x T R t c ht hs)
  unfold SRet at HCH
  have HPF := Lib.hid (restFault_cases L ch lost losses left)
  have HPC := Lib.hid (restFault_code L ch lost losses left)
  have HMI := Lib.hid (leftFault_mid L ch lost)
  have HR := Lib.hid (endR_cases L (restFault L ch lost losses left) (restSt L ch lost losses left))
  have HPL : Hid ((restR L ch lost losses left).1.length ≤ maxLen) := restR_len L ch lost losses left
  have HPN := Lib.hid (fun h => cost_none L (restSt L ch lost losses left) h)
  have HLN := Lib.hid (restFault_len L ch lost losses left)
  unfold restR at *
  change Hid (∀ (h : restFault L ch lost losses left = (0, 0)) w1 (U R : Option Addr) (u r : Nat) (hu : Sl w1 .i64 U (Plain.leftF L (upTo L.length) lost)) (hr : Sl w1 .i64 R (Plain.leftF L ch lost)), Calls Try.prog 44 #[.slice U (Plain.leftF L (upTo L.length) lost).length u, .slice R (Plain.leftF L ch lost).length r] w1 (LRet w1 (freeF L ch lost))) at HWI
  generalize endR L (restFault L ch lost losses left) (restSt L ch lost losses left) = PR at *
  obtain ⟨P1, P2, f1, f2⟩ := PR
  generalize costF L ((restSt L ch lost losses left).getD []) = PN at *
  generalize restSt L ch lost losses left = ST at *
  generalize restFault L ch lost losses left = PF at *
  generalize Plain.chosenF L ch = SF at *
  generalize leftFault L ch lost = MF at *
  generalize limitsF losses left (-4) = LI at *
  generalize freeF L ch lost = FF at *
  generalize Plain.leftF L (upTo L.length) lost = UF at *
  generalize Plain.leftF L ch lost = RF at *
  generalize Plain.risingC lost 12 = rc at *
  obtain ⟨s1, s2⟩ := SF
  obtain ⟨q1, q2⟩ := PF
  obtain ⟨m1, m2⟩ := MF
  generalize upTo L.length = UT at *
  clear h1 hg h2 h3
  go_enter Try.func11, Try.ntmps11
  go_upto_region 1 with (fail)
  go_cut [11, 12, 13] (fun sp sn sf wx => LV wx sp P1 ∧ sn = .int .i64 P2 ∧ FV wx sf (f1, f2) ∧ Ext w wx)
  case first =>
    go_wp2_with (go_at_call 43; refine (HMA.out).mono ?_; rintro e w3 ⟨v3, rfl, hl3, hx3⟩; have HL := Lib.hid hl3; have HX3 := Lib.hid hx3; clear hl3 hx3)
    go_meet
    exact ⟨HL.out.ext ((Ext.refl _).alloc _), rfl, new_fv _ _ _, HX3.out.alloc _⟩
  case rest =>
    obtain ⟨lp, rfl, ff, hxc⟩ := hcut
    have HLP := Lib.hid lp
    have HF := Lib.hid ff
    have HXC := Lib.hid hxc
    clear lp ff hxc HMA
    obtain ⟨wd, rfl⟩ : ∃ x, x = wc := ⟨_, rfl⟩
    go_upto_region 2 with (fail)
    go_cut [14] (fun s wx => ∃ g, s = .pointer (some ⟨g, 0, none⟩) ∧ wd.heap.size ≤ g ∧ FBlk wx g (s1, s2) ∧ Ext wd wx)
    case first =>
      go_wp2_with (go_at_call 18; refine (HSF.out _ HXC.out).mono ?_; rintro e w3 ⟨rfl, hx3⟩; have HX3 := Lib.hid hx3; clear hx3)
      go_meet
      exact ⟨_, rfl, HX3.out.size, FBlk.new _ _ _, HX3.out.alloc _⟩
    case rest =>
      obtain ⟨g14, rfl, hg14, hb14, hx14⟩ := hcut
      have HB14 := Lib.hid hb14
      have HX14 := Lib.hid hx14
      clear hb14 hx14 HSF
      have z0 := HB14.out.c0
      simp only at z0
      go_upto_region 3 with (fail)
      go_cut [40] (fun s wx => s = .bool (decide (s1 = 0) && decide (rc ≠ 0)) ∧ Ext wc wx)
      case first =>
        by_cases e1 : s1 = 0
        · have e1' : (s1 == 0) = true := by simpa using e1
          go_wp2_with (go_at_call 19; refine (HRI.out _ (HXC.out.trans HX14.out)).mono ?_; rintro e w' ⟨rfl, hx'⟩; have HX' := Lib.hid hx'; clear hx')
          go_meet
          exact ⟨by by_cases e2 : rc = 0 <;> simp [e1, e2], HX'.out⟩
        · have e1' : (s1 == 0) = false := by simpa using e1
          go_wp2_with fail
          go_meet
          exact ⟨by simp [e1], Ext.refl _⟩
      case rest =>
        obtain ⟨rfl, hx0⟩ := hcut
        have HB14 := Lib.hid (HB14.out.ext hx0)
        have HX14 := Lib.hid (HX14.out.trans hx0)
        have z0 := HB14.out.c0
        have z1 := HB14.out.c1
        have y0 := HB14.out.z 0
        have y1 := HB14.out.z 1
        have hglt : g14 < wc.heap.size := blk_lt HB14.out
        clear hx0
        simp only at z0 z1
        go_upto_if 40 with (fail)
        go_cut [14] (fun s wx => s = .pointer (some ⟨g14, 0, none⟩) ∧ FBlk wx g14 (m1, m2) ∧ Ext wd wx)
        case first =>
          have HM2 := HMI
          cases hb : (decide (s1 = 0) && decide (rc ≠ 0)) with
          | true =>
            rw [hb, if_pos rfl] at HM2
            go_wp2_with (first | (go_at_call 19; refine (HRI.out _ (HXC.out.trans HX14.out)).mono ?_; rintro e w' ⟨rfl, hx'⟩; have HB5 := Lib.hid (HB14.out.ext hx'); have HX5 := Lib.hid (HX14.out.trans hx'); have hglt' : g14 < w'.heap.size := blk_lt HB5.out; have z0' := HB5.out.c0; have z1' := HB5.out.c1; have y0' := HB5.out.z 0; have y1' := HB5.out.z 1; clear hx') | (go_at_call 20; refine (At_c _ _ _).mono ?_; rintro e w3 ⟨rfl, rfl⟩))
            go_meet
            exact ⟨rfl, by rw [HM2.out]; exact (HB5.out.set _ _).alloc _, (HX5.out.set2at hg14 _ _).alloc _⟩
          | false =>
            rw [hb, if_neg (by simp)] at HM2
            go_wp2_with fail
            go_meet
            exact ⟨rfl, by rw [HM2.out]; exact HB14.out, HX14.out⟩
        case rest =>
          obtain ⟨rfl, hb14, hx14⟩ := hcut
          have HB14 := Lib.hid hb14
          have HX14 := Lib.hid hx14
          clear hb14 hx14 z0 z1 y0 y1 hglt
          have z0 := HB14.out.c0
          have z1 := HB14.out.c1
          have y0 := HB14.out.z 0
          have y1 := HB14.out.z 1
          have hglt : g14 < wc.heap.size := blk_lt HB14.out
          simp only at z0 z1
          go_upto_if 46 with (fail)
          go_cut [14] (fun s wx => s = .pointer (some ⟨g14, 0, none⟩) ∧ FBlk wx g14 (q1, q2) ∧ Ext wd wx)
          case first =>
            by_cases e1 : m1 = 0
            · have HWE := Lib.hid (HPF.out.1 e1)
              have e1' : (m1 == 0) = true := by simpa using e1
              clear e1
              go_wp2_with (go_at_call 37; refine (HLI.out _).mono ?_; rintro e w5 ⟨rfl, hx5⟩; have HB5 := Lib.hid (HB14.out.ext hx5); have HX5 := Lib.hid (HX14.out.trans hx5); have hglt' : g14 < w5.heap.size := blk_lt HB5.out; have z0' := HB5.out.c0; have z1' := HB5.out.c1; have y0' := HB5.out.z 0; have y1' := HB5.out.z 1; clear hx5)
              go_meet
              exact ⟨rfl, by rw [HWE.out]; exact HB5.out.set _ _, HX5.out.set2at hg14 _ _⟩
            · have HWE := Lib.hid (HPF.out.2 e1)
              have e1' : (m1 == 0) = false := by simpa using e1
              go_wp2_with fail
              go_meet
              exact ⟨rfl, by rw [HWE.out]; exact HB14.out, HX14.out⟩
          case rest =>
            obtain ⟨rfl, hb14, hx14⟩ := hcut
            have HB14 := Lib.hid hb14
            have HX14 := Lib.hid hx14
            clear hb14 hx14 z0 z1 y0 y1 hglt
            have HRES := Lib.hid (HR.out)
            clear HR
            have z0 := HB14.out.c0
            have z1 := HB14.out.c1
            have y0 := HB14.out.z 0
            have y1 := HB14.out.z 1
            have hglt : g14 < wc.heap.size := blk_lt HB14.out
            simp only at z0 z1
            go_upto_if 52 with (fail)
            go_cut [15, 16] (fun sw sc wx => LV wx sw P1 ∧ sc = .int .i64 P2 ∧ FBlk wx g14 (f1, f2) ∧ Ext wd wx)
            case first =>
              by_cases e1 : q1 = 0
              · have hq := HPC.out e1
                have hres := HRES.out.1 hq
                have HCH2 := Lib.hid (HCH.out hq)
                have HAO2 := Lib.hid (fun w1 => HAO.out w1 (HLN.out hq))
                have HLO2 := Lib.hid (HLO.out hq)
                have HLA2 := Lib.hid (HLA.out hq)
                have HWI2 := Lib.hid (HWI.out hq)
                clear HLO HLA HWI
                injection hq with a1 a2
                subst a1 a2
                obtain ⟨r1, r2, r3⟩ : P1 = ST.getD [] ∧ P2 = PN ∧ (f1, f2) = foundF ST := by injection hres with a b; injection b with b c; exact ⟨a, b, c⟩
                clear HCH hres HRES e1
                cases hst : ST.isSome with
                | true =>
                  have HF0 : Hid ((f1, f2) = (0, 0)) := by show _ = _; rw [r3]; unfold foundF; rw [hst]; rfl
                  rw [hst] at HCH2
                  have HR1 := Lib.hid r1
                  have HR2 := Lib.hid r2
                  clear r1 r2 r3 hst
                  go_wp2_with (first | (go_at_call_of 26 (Value.slice C ch.length c2); refine (HLO2.out _ (HXC.out.trans HX14.out)).mono ?_; rintro e w6 ⟨v6, rfl, ho6, hx6⟩; obtain ⟨R6, d6, rfl, l6⟩ := own_lv ho6; have HX6 := Lib.hid hx6; have HL6 := Lib.hid l6; clear ho6 hx6 l6) | (go_at_call 35; refine (HAO2.out _).mono ?_; rintro e w7 ⟨v7, rfl, ho7, hx7⟩; obtain ⟨R7, d7, rfl, l7⟩ := own_lv ho7; have HX7a := Lib.hid (HX6.out.trans hx7); have HL6b := Lib.hid (HL6.out.ext hx7); have HC7a := Lib.hid (HLA2.out _ ((HXC.out.trans HX14.out).trans (HX6.out.trans hx7)) R7 d7 l7); clear ho7 hx7 l7) | (go_at_call 26; refine HC7a.out.mono ?_; rintro e w10 ⟨v10, rfl, ho10, hx10⟩; obtain ⟨R10, d10, rfl, l10⟩ := own_lv ho10; have HX10 := Lib.hid (HX7a.out.trans hx10); have HL6c := Lib.hid (HL6b.out.ext hx10); have HC10 := Lib.hid (HWI2.out _ R10 R6 d10 d6 l10 HL6c.out); clear ho10 hx10 l10) | (go_at_call 44; refine HC10.out.mono ?_; rintro e w11 ⟨v11, rfl, ho11, hx11⟩; obtain ⟨R11, d11, rfl, l11⟩ := own_lv ho11; have HX7 := Lib.hid (HX10.out.trans hx11); have HC7 := Lib.hid (HCH2.out _ ((HXC.out.trans HX14.out).trans (HX10.out.trans hx11)) R6 R11 d6 d11 (HL6c.out.ext hx11) l11); clear ho11 hx11 l11) | (go_at_call 41; refine HC7.out.mono ?_; rintro e w8 ⟨v8, rfl, hl8, hx8⟩; obtain ⟨R8, d8, rfl, l8⟩ := hl8; have HXW := Lib.hid (HX7.out.trans hx8); have hbw := HB14.out.ext (HX7.out.trans hx8); have z0'' := hbw.c0; have z1'' := hbw.c1; have y0'' := hbw.z 0; have y1'' := hbw.z 1; have hglt'' : g14 < w8.heap.size := blk_lt hbw; have HBW := HB14; have HLW : Hid (LV w8 (.slice R8 (ST.getD []).length d8) (ST.getD [])) := ⟨R8, d8, rfl, l8⟩; clear hx8 hbw l8))
                  go_meet
                  refine ⟨by rw [HR1.out]; exact HLW.out, by rw [HR2.out], by rw [HF0.out]; exact HBW.out.ext HXW.out, HX14.out.trans HXW.out⟩
                | false =>
                  have hst0 : ST = none := by cases ST with | none => rfl | some _ => cases hst
                  have HF0 : Hid ((f1, f2) = (12, -1)) := by show _ = _; rw [r3]; unfold foundF; rw [hst]; rfl
                  have HR1 : Hid (P1 = []) := by show _ = _; rw [r1, hst0]; rfl
                  have HR2 : Hid (P2 = 0) := by show _ = _; rw [r2]; exact HPN.out hst0
                  clear r1 r2 r3 hst
                  subst hst0
                  simp only [Option.getD_none, Option.isSome_none] at HCH2
                  go_wp2_with (first | (go_at_call_of 26 (Value.slice C ch.length c2); refine (HLO2.out _ (HXC.out.trans HX14.out)).mono ?_; rintro e w6 ⟨v6, rfl, ho6, hx6⟩; obtain ⟨R6, d6, rfl, l6⟩ := own_lv ho6; have HX6 := Lib.hid hx6; have HL6 := Lib.hid l6; clear ho6 hx6 l6) | (go_at_call 35; refine (HAO2.out _).mono ?_; rintro e w7 ⟨v7, rfl, ho7, hx7⟩; obtain ⟨R7, d7, rfl, l7⟩ := own_lv ho7; have HX7a := Lib.hid (HX6.out.trans hx7); have HL6b := Lib.hid (HL6.out.ext hx7); have HC7a := Lib.hid (HLA2.out _ ((HXC.out.trans HX14.out).trans (HX6.out.trans hx7)) R7 d7 l7); clear ho7 hx7 l7) | (go_at_call 26; refine HC7a.out.mono ?_; rintro e w10 ⟨v10, rfl, ho10, hx10⟩; obtain ⟨R10, d10, rfl, l10⟩ := own_lv ho10; have HX10 := Lib.hid (HX7a.out.trans hx10); have HL6c := Lib.hid (HL6b.out.ext hx10); have HC10 := Lib.hid (HWI2.out _ R10 R6 d10 d6 l10 HL6c.out); clear ho10 hx10 l10) | (go_at_call 44; refine HC10.out.mono ?_; rintro e w11 ⟨v11, rfl, ho11, hx11⟩; obtain ⟨R11, d11, rfl, l11⟩ := own_lv ho11; have HX7 := Lib.hid (HX10.out.trans hx11); have HC7 := Lib.hid (HCH2.out _ ((HXC.out.trans HX14.out).trans (HX10.out.trans hx11)) R6 R11 d6 d11 (HL6c.out.ext hx11) l11); clear ho11 hx11 l11) | (go_at_call 41; refine HC7.out.mono ?_; rintro e w8 ⟨v8, rfl, hl8, hx8⟩; obtain ⟨R8, d8, rfl, l8⟩ := hl8; have HXW := Lib.hid (HX7.out.trans hx8); have hbw := HB14.out.ext (HX7.out.trans hx8); have z0'' := hbw.c0; have z1'' := hbw.c1; have y0'' := hbw.z 0; have y1'' := hbw.z 1; have hglt'' : g14 < w8.heap.size := blk_lt hbw; have HBW := HB14; have HLW : Hid (LV w8 (.slice R8 [].length d8) []) := ⟨R8, d8, rfl, l8⟩; clear hx8 hbw l8) | (go_at_call 20; refine (At_c _ _ _).mono ?_; rintro e w9 ⟨rfl, rfl⟩))
                  go_meet
                  refine ⟨by rw [HR1.out]; exact ⟨R8, d8, rfl, SlC.nil _ _⟩, by rw [HR2.out], by rw [HF0.out]; exact ((HBW.out.ext HXW.out).set 12 (-1)).alloc _, ((HX14.out.trans HXW.out).set2at hg14 _ _).alloc _⟩
              · have hq : ¬ (q1, q2) = (0, 0) := by intro h; apply e1; injection h
                have hres := HRES.out.2 hq
                obtain ⟨r1, r2, r3⟩ : P1 = [] ∧ P2 = 0 ∧ (f1, f2) = (q1, q2) := by injection hres with a b; injection b with b c; exact ⟨a, b, c⟩
                have e1' : (q1 == 0) = false := by simpa using e1
                have HR1 := Lib.hid r1
                have HR2 := Lib.hid r2
                have HR3 := Lib.hid r3
                clear r1 r2 r3 hres HRES HCH
                go_wp2_with fail
                go_meet
                exact ⟨by rw [HR1.out]; exact ⟨none, 0, rfl, SlC.nil _ _⟩, by rw [HR2.out], by rw [HR3.out]; exact HB14.out, HX14.out⟩
            case rest =>
              obtain ⟨lw, rfl, hbw, hx⟩ := hcut
              obtain ⟨R15, d15, rfl, lw⟩ := lw
              obtain ⟨g13, rfl, ff⟩ := HF.out.ext hx
              obtain ⟨R11, d11, rfl, lp⟩ := HLP.out.ext hx
              have HXF := Lib.hid (HXC.out.trans hx)
              have HCS2 := Lib.hid (HCS.out _ HXF.out)
              have HIN := Lib.hid (fun w' (x : Ext wc w') => ints_same R11 R15 P1 P1.length d11 d15 w' rfl (HPL.out) (lp.ext x) (lw.ext x))
              have HFF := Lib.hid ff
              have HBB := Lib.hid hbw
              clear lw lp ff hbw hx HXC z0 z1 y0 y1 hglt HF HLP HCH HCS HRES
              go_wp2_with (first | (go_at_call 38; refine HCS2.out.mono ?_; rintro e w5 ⟨rfl, hx5⟩; have k0 := (HFF.out.ext hx5).c0; have k1 := (HFF.out.ext hx5).c1; have k2 := (HBB.out.ext hx5).c0; have k3 := (HBB.out.ext hx5).c1; have HX5 := Lib.hid hx5; clear hx5) | (go_at_call 24; refine (HIN.out _ HX5.out).mono ?_; rintro e w6 ⟨rfl, hx6⟩; have HX6 := Lib.hid (HX5.out.trans hx6); clear hx6))
              go_ret
              exact ⟨rfl, HXF.out.trans HX6.out⟩
end Go.Proofs.Ytbhcaniopdgjkaa
