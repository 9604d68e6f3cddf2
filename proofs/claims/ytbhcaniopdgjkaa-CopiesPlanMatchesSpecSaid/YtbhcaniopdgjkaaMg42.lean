import Derived.Test.YtbhcaniopdgjkaaMg41
namespace Go.Proofs.Ytbhcaniopdgjkaa
open Go Go.Proofs Go.RowKit
open Plain (SiteD)
set_option maxHeartbeats 4000000
set_option maxRecDepth 100000
theorem law8_c (A C : Option Addr) (L : List SiteD) (ch : List Int) (c1 c2 : Nat) (losses left : Int) (w : World) (hL : L.length ≤ c1) (hc1 : c1 ≤ maxLen) (hc : ch.length ≤ maxLen) (h1 : Sites w A L) (hg : Glob w) (h2 : Sl w .i64 C ch) :
    Calls Try.prog 8 #[.slice A L.length c1, .slice C ch.length c2, .int .i64 losses, .int .i64 left] w (BRet w true) := by
  have HCS := Lib.hid (fun w1 (x : Ext w w1) => chosen_c w1 (hg.ext x))
  have HMA := Lib.hid (Holds_c A C L ch c1 c2 losses left w hL hc h1 hg h2)
  have HSF := Lib.hid (fun w1 (x : Ext w w1) => ChosenFault_c A C L ch c1 c2 w1 hc (by unfold maxLen at hc1; omega) (h1.ext x) (h2.ext x))
  have HLI := Lib.hid (fun w1 => limits_c losses left (-3) w1 (by omega))
  have HPF := Lib.hid (holdsFault_cases L ch losses left)
  have HPC := Lib.hid (holdsFault_code L ch losses left)
  have HHO := Lib.hid (fun (h : holdsFault L ch losses left = (0, 0)) w1 (x : Ext w w1) => spec_holds_c A C L ch c1 c2 losses left w h1 h2 h w1 x)
  generalize holdF L losses left ch = HF at *
  generalize holdsFault L ch losses left = PF at *
  generalize Plain.chosenF L ch = SF at *
  generalize limitsF losses left (-3) = LI at *
  obtain ⟨s1, s2⟩ := SF
  obtain ⟨q1, q2⟩ := PF
  obtain ⟨IS, hIS⟩ : ∃ IS, IS = (decide ((q1, q2) = ((0 : Int), (0 : Int))) && HF) := ⟨_, rfl⟩
  rw [← hIS] at HMA
  have HIS := Lib.hid hIS
  clear h1 hg h2 hIS
  go_enter Try.func8, Try.ntmps8
  go_upto_region 1 with (fail)
  go_cut [9, 10] (fun sp sf wx => sp = .bool IS ∧ FV wx sf (q1, q2) ∧ Ext w wx)
  case first =>
    go_wp2_with (go_at_call 36; refine (HMA.out).mono ?_; rintro e w3 ⟨rfl, hx3⟩; have HX3 := Lib.hid hx3; clear hx3)
    go_meet
    exact ⟨rfl, new_fv _ _ _, HX3.out.alloc _⟩
  case rest =>
    obtain ⟨rfl, ff, hxc⟩ := hcut
    have HF10 := Lib.hid ff
    have HXC := Lib.hid hxc
    clear ff hxc HMA
    obtain ⟨wd, rfl⟩ : ∃ x, x = wc := ⟨_, rfl⟩
    go_upto_region 2 with (fail)
    go_cut [11] (fun s wx => ∃ g, s = .pointer (some ⟨g, 0, none⟩) ∧ wd.heap.size ≤ g ∧ FBlk wx g (s1, s2) ∧ Ext wd wx)
    case first =>
      go_wp2_with (go_at_call 18; refine (HSF.out _ HXC.out).mono ?_; rintro e w3 ⟨rfl, hx3⟩; have HX3 := Lib.hid hx3; clear hx3)
      go_meet
      exact ⟨_, rfl, HX3.out.size, FBlk.new _ _ _, HX3.out.alloc _⟩
    case rest =>
      obtain ⟨g11, rfl, hg14, hb14, hx14⟩ := hcut
      have HB14 := Lib.hid hb14
      have HX14 := Lib.hid hx14
      clear hb14 hx14 HSF
      have z0 := HB14.out.c0
      have z1 := HB14.out.c1
      have y0 := HB14.out.z 0
      have y1 := HB14.out.z 1
      have hglt : g11 < wc.heap.size := blk_lt HB14.out
      simp only at z0 z1
      go_upto_if 25 with (fail)
      go_cut [11] (fun s wx => s = .pointer (some ⟨g11, 0, none⟩) ∧ FBlk wx g11 (q1, q2) ∧ Ext wd wx)
      case first =>
        by_cases e1 : s1 = 0
        · have HWE := Lib.hid (HPF.out.1 e1)
          have e1' : (s1 == 0) = true := by simpa using e1
          clear e1
          go_wp2_with (go_at_call 37; refine (HLI.out _).mono ?_; rintro e w5 ⟨rfl, hx5⟩; have HB5 := Lib.hid (HB14.out.ext hx5); have HX5 := Lib.hid (HX14.out.trans hx5); have hglt' : g11 < w5.heap.size := blk_lt HB5.out; have z0' := HB5.out.c0; have z1' := HB5.out.c1; have y0' := HB5.out.z 0; have y1' := HB5.out.z 1; clear hx5)
          go_meet
          exact ⟨rfl, by rw [HWE.out]; exact HB5.out.set _ _, HX5.out.set2at hg14 _ _⟩
        · have HWE := Lib.hid (HPF.out.2 e1)
          have e1' : (s1 == 0) = false := by simpa using e1
          go_wp2_with fail
          go_meet
          exact ⟨rfl, by rw [HWE.out]; exact HB14.out, HX14.out⟩
      case rest =>
        obtain ⟨rfl, hb14, hx14⟩ := hcut
        have HXF := Lib.hid (HXC.out.trans hx14)
        obtain ⟨g10, rfl, ff⟩ := HF10.out.ext hx14
        have HFF := Lib.hid ff
        have HBB := Lib.hid hb14
        have HCS2 := Lib.hid (HCS.out _ HXF.out)
        clear hb14 hx14 z0 z1 y0 y1 hglt ff HF10 HB14 HX14 HXC HLI HPF HCS
        by_cases e1 : q1 = 0
        · have hq := HPC.out e1
          have HH2 := Lib.hid (HHO.out hq)
          have his := HIS.out
          rw [hq, decide_eq_true rfl, Bool.true_and] at his
          injection hq with a1 a2
          subst a1 a2 his
          clear HHO HIS e1
          cases IS with
          | true =>
            go_wp2_with (first | (go_at_call 38; refine HCS2.out.mono ?_; rintro e w5 ⟨rfl, hx5⟩; have k0 := (HFF.out.ext hx5).c0; have k1 := (HFF.out.ext hx5).c1; have k2 := (HBB.out.ext hx5).c0; have k3 := (HBB.out.ext hx5).c1; have HX5 := Lib.hid hx5; clear hx5) | (go_at_call 39; refine (HH2.out _ (HXF.out.trans HX5.out)).mono ?_; rintro e w6 ⟨rfl, hx6⟩; have HX6 := Lib.hid (HX5.out.trans hx6); clear hx6))
            go_ret
            exact ⟨rfl, HXF.out.trans HX6.out⟩
          | false =>
            go_wp2_with (first | (go_at_call 38; refine HCS2.out.mono ?_; rintro e w5 ⟨rfl, hx5⟩; have k0 := (HFF.out.ext hx5).c0; have k1 := (HFF.out.ext hx5).c1; have k2 := (HBB.out.ext hx5).c0; have k3 := (HBB.out.ext hx5).c1; have HX5 := Lib.hid hx5; clear hx5) | (go_at_call 39; refine (HH2.out _ (HXF.out.trans HX5.out)).mono ?_; rintro e w6 ⟨rfl, hx6⟩; have HX6 := Lib.hid (HX5.out.trans hx6); clear hx6))
            go_ret
            exact ⟨rfl, HXF.out.trans HX6.out⟩
        · have hq : ¬ (q1, q2) = (0, 0) := by intro h; apply e1; injection h
          have his := HIS.out
          rw [decide_eq_false hq, Bool.false_and] at his
          subst his
          have e1' : (q1 == 0) = false := by simpa using e1
          clear HHO HIS hq
          go_wp2_with (first | (go_at_call 38; refine HCS2.out.mono ?_; rintro e w5 ⟨rfl, hx5⟩; have k0 := (HFF.out.ext hx5).c0; have k1 := (HFF.out.ext hx5).c1; have k2 := (HBB.out.ext hx5).c0; have k3 := (HBB.out.ext hx5).c1; have HX5 := Lib.hid hx5; clear hx5))
          go_ret
          exact ⟨rfl, HXF.out.trans HX5.out⟩
end Go.Proofs.Ytbhcaniopdgjkaa
namespace Go.Proofs.Ytbhcaniopdgjkaa
open Go Go.Proofs Go.RowKit
open Plain (SiteD)
set_option maxHeartbeats 4000000
set_option maxRecDepth 100000
theorem law9_c (A : Option Addr) (L : List SiteD) (c1 : Nat) (losses left : Int) (w : World) (hL : L.length ≤ c1) (hc1 : c1 ≤ maxLen) (h1 : Sites w A L) (hg : Glob w) :
    Calls Try.prog 9 #[.slice A L.length c1, .int .i64 losses, .int .i64 left] w (BRet w true) := by
  have HCS := Lib.hid (fun w1 (x : Ext w w1) => chosen_c w1 (hg.ext x))
  have HMA := Lib.hid (Plan_c A L c1 losses left w hL h1 hg)
  have HSF := Lib.hid (fun w1 (x : Ext w w1) => SitesFault_c A L c1 w1 (by unfold maxLen at hc1; omega) (h1.ext x))
  have HLI := Lib.hid (fun w1 => limits_c losses left (-2) w1 (by omega))
  have HAO := Lib.hid (fun w1 => AllOf_c A L.length c1 w1)
  have HCH := Lib.hid (fun (h : planFault L losses left = (0, 0)) w1 (x : Ext w w1) R c hs => spec_plan_c A L c1 losses left w h1 h w1 x R c hs)
  unfold SRet at HCH
  have HPF := Lib.hid (planFault_cases L losses left)
  have HPC := Lib.hid (planFault_code L losses left)
  have HR := Lib.hid (endR_cases L (planFault L losses left) (planSt L losses left))
  have HPL : Hid ((planR L losses left).1.length ≤ maxLen) := planR_len L losses left
  have HPN := Lib.hid (fun h => cost_none L (planSt L losses left) h)
  have HLN := Lib.hid (planFault_len L losses left)
  unfold planR at *
  generalize endR L (planFault L losses left) (planSt L losses left) = PR at *
  obtain ⟨P1, P2, f1, f2⟩ := PR
  generalize costF L ((planSt L losses left).getD []) = PN at *
  generalize planSt L losses left = ST at *
  generalize planFault L losses left = PF at *
  generalize Plain.sitesF L = SF at *
  generalize limitsF losses left (-2) = LI at *
  obtain ⟨s1, s2⟩ := SF
  obtain ⟨q1, q2⟩ := PF
  generalize upTo L.length = UT at *
  clear h1 hg
  go_enter Try.func9, Try.ntmps9
  go_upto_region 1 with (fail)
  go_cut [7, 8, 9] (fun sp sn sf wx => LV wx sp P1 ∧ sn = .int .i64 P2 ∧ FV wx sf (f1, f2) ∧ Ext w wx)
  case first =>
    go_wp2_with (go_at_call 40; refine (HMA.out).mono ?_; rintro e w3 ⟨v3, rfl, hl3, hx3⟩; have HL := Lib.hid hl3; have HX3 := Lib.hid hx3; clear hl3 hx3)
    go_meet
    exact ⟨HL.out.ext ((Ext.refl _).alloc _), rfl, new_fv _ _ _, HX3.out.alloc _⟩
  case rest =>
    obtain ⟨lp, rfl, ff, hxc⟩ := hcut
    have HLP := Lib.hid lp
    have HF := Lib.hid ff
    have HXC := Lib.hid hxc
    clear lp ff hxc HMA
    obtain ⟨wd, rfl⟩ : ∃ x, x = wc := ⟨_, rfl⟩
    go_upto_region 2 with (fail)
    go_cut [10] (fun s wx => ∃ g, s = .pointer (some ⟨g, 0, none⟩) ∧ wd.heap.size ≤ g ∧ FBlk wx g (s1, s2) ∧ Ext wd wx)
    case first =>
      go_wp2_with (go_at_call 17; refine (HSF.out _ HXC.out).mono ?_; rintro e w3 ⟨rfl, hx3⟩; have HX3 := Lib.hid hx3; clear hx3)
      go_meet
      exact ⟨_, rfl, HX3.out.size, FBlk.new _ _ _, HX3.out.alloc _⟩
    case rest =>
      obtain ⟨g10, rfl, hg14, hb14, hx14⟩ := hcut
      have HB14 := Lib.hid hb14
      have HX14 := Lib.hid hx14
      clear hb14 hx14 HSF
      have z0 := HB14.out.c0
      have z1 := HB14.out.c1
      have y0 := HB14.out.z 0
      have y1 := HB14.out.z 1
      have hglt : g10 < wc.heap.size := blk_lt HB14.out
      simp only at z0 z1
      go_upto_if 26 with (fail)
      go_cut [10] (fun s wx => s = .pointer (some ⟨g10, 0, none⟩) ∧ FBlk wx g10 (q1, q2) ∧ Ext wd wx)
      case first =>
        by_cases e1 : s1 = 0
        · have HWE := Lib.hid (HPF.out.1 e1)
          have e1' : (s1 == 0) = true := by simpa using e1
          clear e1
          go_wp2_with (go_at_call 37; refine (HLI.out _).mono ?_; rintro e w5 ⟨rfl, hx5⟩; have HB5 := Lib.hid (HB14.out.ext hx5); have HX5 := Lib.hid (HX14.out.trans hx5); have hglt' : g10 < w5.heap.size := blk_lt HB5.out; have z0' := HB5.out.c0; have z1' := HB5.out.c1; have y0' := HB5.out.z 0; have y1' := HB5.out.z 1; clear hx5)
          go_meet
          exact ⟨rfl, by rw [HWE.out]; exact HB5.out.set _ _, HX5.out.set2at hg14 _ _⟩
        · have HWE := Lib.hid (HPF.out.2 e1)
          have e1' : (s1 == 0) = false := by simpa using e1
          go_wp2_with fail
          go_meet
          exact ⟨rfl, by rw [HWE.out]; exact HB14.out, HX14.out⟩
      case rest =>
        obtain ⟨rfl, hb14, hx14⟩ := hcut
        have HB14 := Lib.hid hb14
        have HX14 := Lib.hid hx14
        clear hb14 hx14 z0 z1 y0 y1 hglt
        have HRES := Lib.hid (HR.out)
        clear HR
        have z0 := HB14.out.c0
        have z1 := HB14.out.c1
        have y0 := HB14.out.z 0
        have y1 := HB14.out.z 1
        have hglt : g10 < wc.heap.size := blk_lt HB14.out
        simp only at z0 z1
        go_upto_if 32 with (fail)
        go_cut [11, 12] (fun sw sc wx => LV wx sw P1 ∧ sc = .int .i64 P2 ∧ FBlk wx g10 (f1, f2) ∧ Ext wd wx)
        case first =>
          by_cases e1 : q1 = 0
          · have hq := HPC.out e1
            have hres := HRES.out.1 hq
            have HCH2 := Lib.hid (HCH.out hq)
            have HAO2 := Lib.hid (fun w1 => HAO.out w1 (HLN.out hq))
            injection hq with a1 a2
            subst a1 a2
            obtain ⟨r1, r2, r3⟩ : P1 = ST.getD [] ∧ P2 = PN ∧ (f1, f2) = foundF ST := by injection hres with a b; injection b with b c; exact ⟨a, b, c⟩
            clear HCH hres HRES e1
            cases hst : ST.isSome with
            | true =>
              have HF0 : Hid ((f1, f2) = (0, 0)) := by show _ = _; rw [r3]; unfold foundF; rw [hst]; rfl
              rw [hst] at HCH2
              have HR1 := Lib.hid r1
              have HR2 := Lib.hid r2
              clear r1 r2 r3 hst
              go_wp2_with (first | (go_at_call 35; refine (HAO2.out _).mono ?_; rintro e w7 ⟨v7, rfl, ho7, hx7⟩; obtain ⟨R7, d7, rfl, l7⟩ := own_lv ho7; have HX7 := Lib.hid hx7; have HC7 := Lib.hid (HCH2.out _ ((HXC.out.trans HX14.out).trans hx7) R7 d7 l7); clear ho7 hx7 l7) | (go_at_call 41; refine HC7.out.mono ?_; rintro e w8 ⟨v8, rfl, hl8, hx8⟩; obtain ⟨R8, d8, rfl, l8⟩ := hl8; have HXW := Lib.hid (HX7.out.trans hx8); have hbw := HB14.out.ext (HX7.out.trans hx8); have z0'' := hbw.c0; have z1'' := hbw.c1; have y0'' := hbw.z 0; have y1'' := hbw.z 1; have hglt'' : g10 < w8.heap.size := blk_lt hbw; have HBW := HB14; have HLW : Hid (LV w8 (.slice R8 (ST.getD []).length d8) (ST.getD [])) := ⟨R8, d8, rfl, l8⟩; clear hx8 hbw l8))
              go_meet
              refine ⟨by rw [HR1.out]; exact HLW.out, by rw [HR2.out], by rw [HF0.out]; exact HBW.out.ext HXW.out, HX14.out.trans HXW.out⟩
            | false =>
              have hst0 : ST = none := by cases ST with | none => rfl | some _ => cases hst
              have HF0 : Hid ((f1, f2) = (12, -1)) := by show _ = _; rw [r3]; unfold foundF; rw [hst]; rfl
              have HR1 : Hid (P1 = []) := by show _ = _; rw [r1, hst0]; rfl
              have HR2 : Hid (P2 = 0) := by show _ = _; rw [r2]; exact HPN.out hst0
              clear r1 r2 r3 hst
              subst hst0
              simp only [Option.getD_none, Option.isSome_none] at HCH2
              go_wp2_with (first | (go_at_call 35; refine (HAO2.out _).mono ?_; rintro e w7 ⟨v7, rfl, ho7, hx7⟩; obtain ⟨R7, d7, rfl, l7⟩ := own_lv ho7; have HX7 := Lib.hid hx7; have HC7 := Lib.hid (HCH2.out _ ((HXC.out.trans HX14.out).trans hx7) R7 d7 l7); clear ho7 hx7 l7) | (go_at_call 41; refine HC7.out.mono ?_; rintro e w8 ⟨v8, rfl, hl8, hx8⟩; obtain ⟨R8, d8, rfl, l8⟩ := hl8; have HXW := Lib.hid (HX7.out.trans hx8); have hbw := HB14.out.ext (HX7.out.trans hx8); have z0'' := hbw.c0; have z1'' := hbw.c1; have y0'' := hbw.z 0; have y1'' := hbw.z 1; have hglt'' : g10 < w8.heap.size := blk_lt hbw; have HBW := HB14; have HLW : Hid (LV w8 (.slice R8 [].length d8) []) := ⟨R8, d8, rfl, l8⟩; clear hx8 hbw l8) | (go_at_call 20; refine (At_c _ _ _).mono ?_; rintro e w9 ⟨rfl, rfl⟩))
              go_meet
              refine ⟨by rw [HR1.out]; exact ⟨R8, d8, rfl, SlC.nil _ _⟩, by rw [HR2.out], by rw [HF0.out]; exact ((HBW.out.ext HXW.out).set 12 (-1)).alloc _, ((HX14.out.trans HXW.out).set2at hg14 _ _).alloc _⟩
          · have hq : ¬ (q1, q2) = (0, 0) := by intro h; apply e1; injection h
            have hres := HRES.out.2 hq
            obtain ⟨r1, r2, r3⟩ : P1 = [] ∧ P2 = 0 ∧ (f1, f2) = (q1, q2) := by injection hres with a b; injection b with b c; exact ⟨a, b, c⟩
            have e1' : (q1 == 0) = false := by simpa using e1
            have HR1 := Lib.hid r1
            have HR2 := Lib.hid r2
            have HR3 := Lib.hid r3
            clear r1 r2 r3 hres HRES HCH
            go_wp2_with fail
            go_meet
            exact ⟨by rw [HR1.out]; exact ⟨none, 0, rfl, SlC.nil _ _⟩, by rw [HR2.out], by rw [HR3.out]; exact HB14.out, HX14.out⟩
        case rest =>
          obtain ⟨lw, rfl, hbw, hx⟩ := hcut
          obtain ⟨R11, d11, rfl, lw⟩ := lw
          obtain ⟨g9, rfl, ff⟩ := HF.out.ext hx
          obtain ⟨R7, d7, rfl, lp⟩ := HLP.out.ext hx
          have HXF := Lib.hid (HXC.out.trans hx)
          have HCS2 := Lib.hid (HCS.out _ HXF.out)
          have HIN := Lib.hid (fun w' (x : Ext wc w') => ints_same R7 R11 P1 P1.length d7 d11 w' rfl (HPL.out) (lp.ext x) (lw.ext x))
          have HFF := Lib.hid ff
          have HBB := Lib.hid hbw
          clear lw lp ff hbw hx HXC z0 z1 y0 y1 hglt HF HLP HCH HCS HRES
          go_wp2_with (first | (go_at_call 38; refine HCS2.out.mono ?_; rintro e w5 ⟨rfl, hx5⟩; have k0 := (HFF.out.ext hx5).c0; have k1 := (HFF.out.ext hx5).c1; have k2 := (HBB.out.ext hx5).c0; have k3 := (HBB.out.ext hx5).c1; have HX5 := Lib.hid hx5; clear hx5) | (go_at_call 24; refine (HIN.out _ HX5.out).mono ?_; rintro e w6 ⟨rfl, hx6⟩; have HX6 := Lib.hid (HX5.out.trans hx6); clear hx6))
          go_ret
          exact ⟨rfl, HXF.out.trans HX6.out⟩
end Go.Proofs.Ytbhcaniopdgjkaa
