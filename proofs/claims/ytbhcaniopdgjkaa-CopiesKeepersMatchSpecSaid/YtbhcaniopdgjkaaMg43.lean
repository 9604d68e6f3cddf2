import Derived.Test.YtbhcaniopdgjkaaMg41
namespace Go.Proofs.Ytbhcaniopdgjkaa
open Go Go.Proofs Go.RowKit
open Plain (SiteD)
set_option maxHeartbeats 4000000
set_option maxRecDepth 100000
theorem law10_c (A : Option Addr) (L : List SiteD) (c1 : Nat) (need losses : Int) (w : World) (hL : L.length ≤ c1) (hc1 : c1 ≤ maxLen) (h1 : Sites w A L) (hg : Glob w) :
    Calls Try.prog 10 #[.slice A L.length c1, .int .i64 need, .int .i64 losses] w (BRet w true) := by
  have HCS := Lib.hid (fun w1 (x : Ext w w1) => chosen_c w1 (hg.ext x))
  have HMA := Lib.hid (Keepers_c A L c1 need losses w hL h1 hg)
  have HSF := Lib.hid (fun w1 (x : Ext w w1) => SitesFault_c A L c1 w1 (by unfold maxLen at hc1; omega) (h1.ext x))
  have HAO := Lib.hid (fun w1 => AllOf_c A L.length c1 w1)
  have HCH := Lib.hid (fun (h : keepFault L need losses = (0, 0)) w1 (x : Ext w w1) R c hs => spec_keep_c A L c1 need losses w h1 h w1 x R c hs)
  unfold SRet at HCH
  have HPF := Lib.hid (keepFault_mid L need losses)
  have HPC := Lib.hid (keepFault_code L need losses)
  have HR := Lib.hid (endR_cases L (keepFault L need losses) (keepSt L need losses))
  have HPL : Hid ((keepR L need losses).1.length ≤ maxLen) := keepR_len L need losses
  have HPN := Lib.hid (fun h => cost_none L (keepSt L need losses) h)
  have HLN := Lib.hid (keepFault_len L need losses)
  unfold keepR at *
  generalize endR L (keepFault L need losses) (keepSt L need losses) = PR at *
  obtain ⟨P1, P2, f1, f2⟩ := PR
  generalize costF L ((keepSt L need losses).getD []) = PN at *
  generalize keepSt L need losses = ST at *
  generalize keepFault L need losses = PF at *
  have HMI := Lib.hid (keepMid_eq L need)
  generalize Plain.sitesF L = SF at *
  generalize keepMid L need = MF at *
  obtain ⟨s1, s2⟩ := SF
  obtain ⟨q1, q2⟩ := PF
  obtain ⟨m1, m2⟩ := MF
  generalize upTo L.length = UT at *
  clear h1 hg
  go_enter Try.func10, Try.ntmps10
  go_upto_region 1 with (fail)
  go_cut [7, 8, 9] (fun sp sn sf wx => LV wx sp P1 ∧ sn = .int .i64 P2 ∧ FV wx sf (f1, f2) ∧ Ext w wx)
  case first =>
    go_wp2_with (go_at_call 42; refine (HMA.out).mono ?_; rintro e w3 ⟨v3, rfl, hl3, hx3⟩; have HL := Lib.hid hl3; have HX3 := Lib.hid hx3; clear hl3 hx3)
    go_meet
    exact ⟨HL.out.ext ((Ext.refl _).alloc _), rfl, new_fv _ _ _, HX3.out.alloc _⟩
  case rest =>
    obtain ⟨lp, rfl, ff, hxc⟩ := hcut
    have HLP := Lib.hid lp
    have HF := Lib.hid ff
    have HXC := Lib.hid hxc
    clear lp ff hxc HMA
    obtain ⟨wd, rfl⟩ : ∃ x, x = wc := ⟨_, rfl⟩
    go_upto_region 2 with (fail)
    go_cut [10] (fun s wx => ∃ g, s = .pointer (some ⟨g, 0, none⟩) ∧ wd.heap.size ≤ g ∧ FBlk wx g (s1, s2) ∧ Ext wd wx)
    case first =>
      go_wp2_with (go_at_call 17; refine (HSF.out _ HXC.out).mono ?_; rintro e w3 ⟨rfl, hx3⟩; have HX3 := Lib.hid hx3; clear hx3)
      go_meet
      exact ⟨_, rfl, HX3.out.size, FBlk.new _ _ _, HX3.out.alloc _⟩
    case rest =>
      obtain ⟨g10, rfl, hg14, hb14, hx14⟩ := hcut
      have HB14 := Lib.hid hb14
      have HX14 := Lib.hid hx14
      clear hb14 hx14 HSF
      have z0 := HB14.out.c0
      simp only at z0
      go_upto_region 3 with (fail)
      go_cut [31] (fun s wx => s = .bool (decide (s1 = 0) && (!inB need 1 10)) ∧ Ext wc wx)
      case first =>
        by_cases e1 : s1 = 0
        · have e1' : (s1 == 0) = true := by simpa using e1
          go_wp2_with (go_at_call 29; refine (In_c _ _ _ _).mono ?_; rintro e w' ⟨rfl, rfl⟩)
          go_meet
          exact ⟨by simp [e1], Ext.refl _⟩
        · have e1' : (s1 == 0) = false := by simpa using e1
          go_wp2_with fail
          go_meet
          exact ⟨by simp [e1], Ext.refl _⟩
      case rest =>
        obtain ⟨rfl, hx0⟩ := hcut
        have HB14 := Lib.hid (HB14.out.ext hx0)
        have HX14 := Lib.hid (HX14.out.trans hx0)
        have z0 := HB14.out.c0
        have z1 := HB14.out.c1
        have y0 := HB14.out.z 0
        have y1 := HB14.out.z 1
        have hglt : g10 < wc.heap.size := blk_lt HB14.out
        clear hx0
        simp only at z0 z1
        go_upto_if 31 with (fail)
        go_cut [10] (fun s wx => s = .pointer (some ⟨g10, 0, none⟩) ∧ FBlk wx g10 (m1, m2) ∧ Ext wd wx)
        case first =>
          have HM2 := HMI
          cases hb : (decide (s1 = 0) && (!inB need 1 10)) with
          | true =>
            rw [hb, if_pos rfl] at HM2
            go_wp2_with (first | (go_at_call 20; refine (At_c _ _ _).mono ?_; rintro e w3 ⟨rfl, rfl⟩))
            go_meet
            exact ⟨rfl, by rw [HM2.out]; exact (HB14.out.set _ _).alloc _, (HX14.out.set2at hg14 _ _).alloc _⟩
          | false =>
            rw [hb, if_neg (by simp)] at HM2
            go_wp2_with fail
            go_meet
            exact ⟨rfl, by rw [HM2.out]; exact HB14.out, HX14.out⟩
        case rest =>
          obtain ⟨rfl, hb14, hx14⟩ := hcut
          have HB14 := Lib.hid hb14
          have HX14 := Lib.hid hx14
          clear hb14 hx14 z0 z1 y0 y1 hglt
          have z0 := HB14.out.c0
          simp only at z0
          go_upto_region 5 with (fail)
          go_cut [40] (fun s wx => s = .bool (decide (m1 = 0) && (!inB losses 0 12)) ∧ Ext wc wx)
          case first =>
            by_cases e1 : m1 = 0
            · have e1' : (m1 == 0) = true := by simpa using e1
              go_wp2_with (go_at_call 29; refine (In_c _ _ _ _).mono ?_; rintro e w' ⟨rfl, rfl⟩)
              go_meet
              exact ⟨by simp [e1], Ext.refl _⟩
            · have e1' : (m1 == 0) = false := by simpa using e1
              go_wp2_with fail
              go_meet
              exact ⟨by simp [e1], Ext.refl _⟩
          case rest =>
            obtain ⟨rfl, hx0⟩ := hcut
            have HB14 := Lib.hid (HB14.out.ext hx0)
            have HX14 := Lib.hid (HX14.out.trans hx0)
            have z0 := HB14.out.c0
            have z1 := HB14.out.c1
            have y0 := HB14.out.z 0
            have y1 := HB14.out.z 1
            have hglt : g10 < wc.heap.size := blk_lt HB14.out
            clear hx0
            simp only at z0 z1
            go_upto_if 40 with (fail)
            go_cut [10] (fun s wx => s = .pointer (some ⟨g10, 0, none⟩) ∧ FBlk wx g10 (q1, q2) ∧ Ext wd wx)
            case first =>
              have HM2 := HPF
              cases hb : (decide (m1 = 0) && (!inB losses 0 12)) with
              | true =>
                rw [hb, if_pos rfl] at HM2
                go_wp2_with (first | (go_at_call 20; refine (At_c _ _ _).mono ?_; rintro e w3 ⟨rfl, rfl⟩))
                go_meet
                exact ⟨rfl, by rw [HM2.out]; exact (HB14.out.set _ _).alloc _, (HX14.out.set2at hg14 _ _).alloc _⟩
              | false =>
                rw [hb, if_neg (by simp)] at HM2
                go_wp2_with fail
                go_meet
                exact ⟨rfl, by rw [HM2.out]; exact HB14.out, HX14.out⟩
            case rest =>
              obtain ⟨rfl, hb14, hx14⟩ := hcut
              have HB14 := Lib.hid hb14
              have HX14 := Lib.hid hx14
              clear hb14 hx14 z0 z1 y0 y1 hglt
              have HRES := Lib.hid (HR.out)
              clear HR
              have z0 := HB14.out.c0
              have z1 := HB14.out.c1
              have y0 := HB14.out.z 0
              have y1 := HB14.out.z 1
              have hglt : g10 < wc.heap.size := blk_lt HB14.out
              simp only at z0 z1
              go_upto_if 44 with (fail)
              go_cut [11, 12] (fun sw sc wx => LV wx sw P1 ∧ sc = .int .i64 P2 ∧ FBlk wx g10 (f1, f2) ∧ Ext wd wx)
              case first =>
                by_cases e1 : q1 = 0
                · have hq := HPC.out e1
                  have hres := HRES.out.1 hq
                  have HCH2 := Lib.hid (HCH.out hq)
                  have HAO2 := Lib.hid (fun w1 => HAO.out w1 (HLN.out hq))
                  injection hq with a1 a2
                  subst a1 a2
                  obtain ⟨r1, r2, r3⟩ : P1 = ST.getD [] ∧ P2 = PN ∧ (f1, f2) = foundF ST := by injection hres with a b; injection b with b c; exact ⟨a, b, c⟩
                  clear HCH hres HRES e1
                  cases hst : ST.isSome with
                  | true =>
                    have HF0 : Hid ((f1, f2) = (0, 0)) := by show _ = _; rw [r3]; unfold foundF; rw [hst]; rfl
                    rw [hst] at HCH2
                    have HR1 := Lib.hid r1
                    have HR2 := Lib.hid r2
                    clear r1 r2 r3 hst
                    go_wp2_with (first | (go_at_call 35; refine (HAO2.out _).mono ?_; rintro e w7 ⟨v7, rfl, ho7, hx7⟩; obtain ⟨R7, d7, rfl, l7⟩ := own_lv ho7; have HX7 := Lib.hid hx7; have HC7 := Lib.hid (HCH2.out _ ((HXC.out.trans HX14.out).trans hx7) R7 d7 l7); clear ho7 hx7 l7) | (go_at_call 41; refine HC7.out.mono ?_; rintro e w8 ⟨v8, rfl, hl8, hx8⟩; obtain ⟨R8, d8, rfl, l8⟩ := hl8; have HXW := Lib.hid (HX7.out.trans hx8); have hbw := HB14.out.ext (HX7.out.trans hx8); have z0'' := hbw.c0; have z1'' := hbw.c1; have y0'' := hbw.z 0; have y1'' := hbw.z 1; have hglt'' : g10 < w8.heap.size := blk_lt hbw; have HBW := HB14; have HLW : Hid (LV w8 (.slice R8 (ST.getD []).length d8) (ST.getD [])) := ⟨R8, d8, rfl, l8⟩; clear hx8 hbw l8))
                    go_meet
                    refine ⟨by rw [HR1.out]; exact HLW.out, by rw [HR2.out], by rw [HF0.out]; exact HBW.out.ext HXW.out, HX14.out.trans HXW.out⟩
                  | false =>
                    have hst0 : ST = none := by cases ST with | none => rfl | some _ => cases hst
                    have HF0 : Hid ((f1, f2) = (12, -1)) := by show _ = _; rw [r3]; unfold foundF; rw [hst]; rfl
                    have HR1 : Hid (P1 = []) := by show _ = _; rw [r1, hst0]; rfl
                    have HR2 : Hid (P2 = 0) := by show _ = _; rw [r2]; exact HPN.out hst0
                    clear r1 r2 r3 hst
                    subst hst0
                    simp only [Option.getD_none, Option.isSome_none] at HCH2
                    go_wp2_with (first | (go_at_call 35; refine (HAO2.out _).mono ?_; rintro e w7 ⟨v7, rfl, ho7, hx7⟩; obtain ⟨R7, d7, rfl, l7⟩ := own_lv ho7; have HX7 := Lib.hid hx7; have HC7 := Lib.hid (HCH2.out _ ((HXC.out.trans HX14.out).trans hx7) R7 d7 l7); clear ho7 hx7 l7) | (go_at_call 41; refine HC7.out.mono ?_; rintro e w8 ⟨v8, rfl, hl8, hx8⟩; obtain ⟨R8, d8, rfl, l8⟩ := hl8; have HXW := Lib.hid (HX7.out.trans hx8); have hbw := HB14.out.ext (HX7.out.trans hx8); have z0'' := hbw.c0; have z1'' := hbw.c1; have y0'' := hbw.z 0; have y1'' := hbw.z 1; have hglt'' : g10 < w8.heap.size := blk_lt hbw; have HBW := HB14; have HLW : Hid (LV w8 (.slice R8 [].length d8) []) := ⟨R8, d8, rfl, l8⟩; clear hx8 hbw l8) | (go_at_call 20; refine (At_c _ _ _).mono ?_; rintro e w9 ⟨rfl, rfl⟩))
                    go_meet
                    refine ⟨by rw [HR1.out]; exact ⟨R8, d8, rfl, SlC.nil _ _⟩, by rw [HR2.out], by rw [HF0.out]; exact ((HBW.out.ext HXW.out).set 12 (-1)).alloc _, ((HX14.out.trans HXW.out).set2at hg14 _ _).alloc _⟩
                · have hq : ¬ (q1, q2) = (0, 0) := by intro h; apply e1; injection h
                  have hres := HRES.out.2 hq
                  obtain ⟨r1, r2, r3⟩ : P1 = [] ∧ P2 = 0 ∧ (f1, f2) = (q1, q2) := by injection hres with a b; injection b with b c; exact ⟨a, b, c⟩
                  have e1' : (q1 == 0) = false := by simpa using e1
                  have HR1 := Lib.hid r1
                  have HR2 := Lib.hid r2
                  have HR3 := Lib.hid r3
                  clear r1 r2 r3 hres HRES HCH
                  go_wp2_with fail
                  go_meet
                  exact ⟨by rw [HR1.out]; exact ⟨none, 0, rfl, SlC.nil _ _⟩, by rw [HR2.out], by rw [HR3.out]; exact HB14.out, HX14.out⟩
              case rest =>
                obtain ⟨lw, rfl, hbw, hx⟩ := hcut
                obtain ⟨R11, d11, rfl, lw⟩ := lw
                obtain ⟨g9, rfl, ff⟩ := HF.out.ext hx
                obtain ⟨R7, d7, rfl, lp⟩ := HLP.out.ext hx
                have HXF := Lib.hid (HXC.out.trans hx)
                have HCS2 := Lib.hid (HCS.out _ HXF.out)
                have HIN := Lib.hid (fun w' (x : Ext wc w') => ints_same R7 R11 P1 P1.length d7 d11 w' rfl (HPL.out) (lp.ext x) (lw.ext x))
                have HFF := Lib.hid ff
                have HBB := Lib.hid hbw
                clear lw lp ff hbw hx HXC z0 z1 y0 y1 hglt HF HLP HCH HCS HRES
                go_wp2_with (first | (go_at_call 38; refine HCS2.out.mono ?_; rintro e w5 ⟨rfl, hx5⟩; have k0 := (HFF.out.ext hx5).c0; have k1 := (HFF.out.ext hx5).c1; have k2 := (HBB.out.ext hx5).c0; have k3 := (HBB.out.ext hx5).c1; have HX5 := Lib.hid hx5; clear hx5) | (go_at_call 24; refine (HIN.out _ HX5.out).mono ?_; rintro e w6 ⟨rfl, hx6⟩; have HX6 := Lib.hid (HX5.out.trans hx6); clear hx6))
                go_ret
                exact ⟨rfl, HXF.out.trans HX6.out⟩
end Go.Proofs.Ytbhcaniopdgjkaa
