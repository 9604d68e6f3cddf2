import Derived.Test.YtbhcaniopdgjkaaPof4
import Derived.Test.YtbhcaniopdgjkaaPlc3
import Derived.Test.YtbhcaniopdgjkaaLeftR
namespace Go.Proofs.Ytbhcaniopdgjkaa
open Go Go.Proofs Go.RowKit
open Plain (SiteD)
set_option maxHeartbeats 1000000
set_option maxRecDepth 100000
theorem leftFault_cases (L : List SiteD) (ch lost : List Int) (f1 f2 : Int) (hf : Plain.chosenF L ch = (f1, f2)) : leftFault L ch lost = if f1 = 0 ∧ Plain.risingC lost 12 ≠ 0 then (Plain.risingC lost 12, -3) else (f1, f2) := by
  unfold leftFault
  rw [hf]
  by_cases h0 : f1 = 0
  · have := chosenF_code L ch (by rw [hf]; exact h0)
    rw [hf] at this
    rw [this]
    injection this with _ h2
    subst h2
    by_cases h3 : Plain.risingC lost 12 = 0
    · simp [h0, h3]
    · simp [h0, h3]
  · rw [if_pos (by intro e; apply h0; injection e), if_neg (by intro h; exact h0 h.1)]
theorem leftFault_code (L : List SiteD) (ch lost : List Int) (h : (leftFault L ch lost).1 = 0) : leftFault L ch lost = (0, 0) := by
  obtain ⟨⟨f1, f2⟩, hf⟩ : ∃ f, Plain.chosenF L ch = f := ⟨_, rfl⟩
  have hc := leftFault_cases L ch lost f1 f2 hf
  rw [hc] at h ⊢
  by_cases h1 : f1 = 0 ∧ Plain.risingC lost 12 ≠ 0
  · rw [if_pos h1] at h; exact absurd h h1.2
  · rw [if_neg h1] at h ⊢
    rw [← hf]
    exact chosenF_code L ch (by rw [hf]; exact h)
theorem leftFault_bad (L : List SiteD) (ch lost : List Int) (h : (Plain.sitesF L).1 ≠ 0) : leftFault L ch lost ≠ (0, 0) := by
  have h1 : Plain.sitesF L ≠ (0, 0) := by intro e; rw [e] at h; exact h rfl
  have h2 : Plain.chosenF L ch = Plain.sitesF L := by unfold Plain.chosenF; rw [if_neg h1]
  unfold leftFault
  rw [h2, if_pos h1]
  exact h1
theorem leftOf_law (A C D : Option Addr) (L : List SiteD) (ch lost : List Int) (c1 c2 c3 : Nat) (w : World) (hd : lost.length ≤ maxLen) (h1 : Sites w A L) (h2 : Sl w .i64 C ch) (h3 : Sl w .i64 D lost) (hf : leftFault L ch lost = (0, 0)) :
    Calls Try.prog 26 #[.slice A L.length c1, .slice C ch.length c2, .slice D lost.length c3] w (LRet w (Plain.leftF L ch lost)) := by
  have a1 : Plain.chosenF L ch = (0, 0) := by
    unfold leftFault at hf
    split at hf
    · rename_i hc; exact absurd hf hc
    · rename_i hc; simpa using hc
  obtain ⟨b1, b2⟩ := chosenF_ok a1
  have b3 := sitesF_len b1
  have b4 := rising_len b2
  exact LeftOf_c A C D L ch lost c1 c2 c3 w (by omega) hd (by omega) h1 h2 h3 (Plain.risingC_iff.1 b2).2
theorem partsOf_law (A : Option Addr) (L : List SiteD) (c1 : Nat) (w : World) (h1 : Sites w A L) (hf : Plain.sitesF L = (0, 0)) :
    Calls Try.prog 23 #[.slice A L.length c1] w (QRet w (intsL (partsN L))) := by
  have := PartsOf_c A L c1 w (sitesF_len hf) h1
  rw [Plain.parts_spec (adjF L) L.length (fun _ _ => meets_comm _ _), ← partsN_C] at this
  exact this
theorem rising_x (A : Option Addr) (l : List Int) (c : Nat) (n : Int) (w : World) (hl : l.length ≤ maxLen) (hn : -1000000 ≤ n ∧ n ≤ 9223372036854775807) (h1 : Sl w .i64 A l) :
    Calls Try.prog 19 #[.slice A l.length c, .int .i64 n] w fun e w' => e = .returned (.int .i64 (Plain.risingC l n)) ∧ Ext w w' := by
  refine (RisingCode_c A l c n w hl hn h1).mono ?_
  rintro e w' ⟨rfl, m, rfl⟩
  exact ⟨rfl, (Ext.refl w).drewN m⟩
theorem leftF_len (L : List SiteD) (ch lost : List Int) : (Plain.leftF L ch lost).length ≤ ch.length := List.length_filter_le _ _
theorem partsN_len (L : List SiteD) : (partsN L).length ≤ L.length := by
  rw [partsN_C]
  unfold Plain.partsC
  rw [List.length_map]
  exact Nat.le_trans (List.length_filter_le _ _) (by simp)
theorem law3_c (A C D : Option Addr) (L : List SiteD) (ch lost : List Int) (c1 c2 c3 : Nat) (w : World) (hL : L.length ≤ c1) (hc1 : c1 ≤ maxLen) (hc : ch.length ≤ maxLen) (hd : lost.length ≤ maxLen) (h1 : Sites w A L) (hg : Glob w) (h2 : Sl w .i64 C ch) (h3 : Sl w .i64 D lost) :
    Calls Try.prog 3 #[.slice A L.length c1, .slice C ch.length c2, .slice D lost.length c3] w (BRet w true) := by
  have HP := Lib.hid (fun w1 (x : Ext w w1) => placed_c w1 (hg.ext x))
  have HLE := Lib.hid (fun w1 (x : Ext w w1) => Left_c A C D L ch lost c1 c2 c3 w1 hL hc hd (h1.ext x) (hg.ext x) (h2.ext x) (h3.ext x))
  have HZO := Lib.hid (fun w1 (x : Ext w w1) => Zones_c A L c1 w1 hL (h1.ext x) (hg.ext x))
  have HPA := Lib.hid (fun w1 (x : Ext w w1) => Parts_c A L c1 w1 hL (h1.ext x) (hg.ext x))
  have HVA := Lib.hid (fun w1 (x : Ext w w1) => Validate_c A L c1 w1 hL (h1.ext x) (hg.ext x))
  have HCF := Lib.hid (fun w1 (x : Ext w w1) => ChosenFault_c A C L ch c1 c2 w1 hc (by unfold maxLen at hc1; omega) (h1.ext x) (h2.ext x))
  have HSF := Lib.hid (fun w1 (x : Ext w w1) => SitesFault_c A L c1 w1 (by unfold maxLen at hc1; omega) (h1.ext x))
  have HRI := Lib.hid (fun w1 (x : Ext w w1) => rising_x D lost c3 12 w1 hd (by omega) (h3.ext x))
  have HPO := Lib.hid (fun w1 (x : Ext w w1) (hf : Plain.sitesF L = (0, 0)) => partsOf_law A L c1 w1 (h1.ext x) hf)
  have HZF := Lib.hid (fun w1 (x : Ext w w1) (hf : Plain.sitesF L = (0, 0)) => ZonesOf_c A L c1 w1 (by have := sitesF_len hf; omega) (h1.ext x))
  have HLO := Lib.hid (fun w1 (x : Ext w w1) (hf : leftFault L ch lost = (0, 0)) => leftOf_law A C D L ch lost c1 c2 c3 w1 hd (h1.ext x) (h2.ext x) (h3.ext x) hf)
  have HLC := Lib.hid (leftFault_cases L ch lost)
  have HK1 := Lib.hid (leftFault_code L ch lost)
  have HK2 := Lib.hid (sitesF_code L)
  have HK3 := Lib.hid (leftFault_bad L ch lost)
  have hzl : (Plain.zonesF L).length ≤ 12 := zonesTo_len L 12
  have hll : (Plain.leftF L ch lost).length ≤ maxLen := Nat.le_trans (leftF_len L ch lost) hc
  have hpl : (intsL (partsN L)).length ≤ maxLen := by unfold intsL; rw [List.length_map]; exact Nat.le_trans (partsN_len L) (Nat.le_trans hL hc1)
  generalize Plain.zonesF L = ZF at *
  generalize Plain.leftF L ch lost = LF at *
  generalize intsL (partsN L) = PF at *
  generalize leftFault L ch lost = lf at *
  generalize Plain.chosenF L ch = CF at *
  generalize Plain.sitesF L = SF at *
  generalize Plain.risingC lost 12 = rc at *
  obtain ⟨lf1, lf2⟩ := lf
  obtain ⟨cf1, cf2⟩ := CF
  obtain ⟨sf1, sf2⟩ := SF
  have HLC := Lib.hid (HLC.out cf1 cf2 rfl)
  clear h1 h2 h3 hg
  go_enter Try.func3, Try.ntmps3
  go_upto_region 1 with (fail)
  go_cut [7, 8] (fun s7 s8 wx => LV wx s7 (if (lf1, lf2) = (0, 0) then LF else []) ∧ FV wx s8 (lf1, lf2) ∧ Ext w wx)
  case first =>
    go_wp2_with (go_at_call 14; refine (HLE.out _ (Ext.refl w)).mono ?_; rintro e w3 ⟨v3, rfl, ho3, hx3⟩; have HL := Lib.hid (own_lv ho3); have HX3 := Lib.hid hx3; clear ho3 hx3)
    go_meet
    exact ⟨HL.out.ext ((Ext.refl _).alloc _), new_fv _ _ _, HX3.out.alloc _⟩
  case rest =>
    obtain ⟨l7, f8, hxc⟩ := hcut
    have HL7 := Lib.hid l7
    have HF8 := Lib.hid f8
    have HXC := Lib.hid hxc
    clear l7 f8 hxc HLE
    go_upto_region 2 with (fail)
    go_cut [9, 10] (fun s9 s10 wx => LV wx s9 (if (sf1, sf2) = (0, 0) then ZF else []) ∧ FV wx s10 (sf1, sf2) ∧ Ext wc wx)
    case first =>
      go_wp2_with (go_at_call 15; refine (HZO.out _ HXC.out).mono ?_; rintro e w3 ⟨v3, rfl, ho3, hx3⟩; have HL := Lib.hid (own_lv ho3); have HX3 := Lib.hid hx3; clear ho3 hx3)
      go_meet
      exact ⟨HL.out.ext ((Ext.refl _).alloc _), new_fv _ _ _, HX3.out.alloc _⟩
    case rest =>
      obtain ⟨l9, f10, hx⟩ := hcut
      have HL9 := Lib.hid l9
      have HF10 := Lib.hid f10
      have HL7 := Lib.hid (HL7.out.ext hx)
      have HF8 := Lib.hid (HF8.out.ext hx)
      have HXC := Lib.hid (HXC.out.trans hx)
      clear l9 f10 hx HZO
      obtain ⟨wa, rfl⟩ : ∃ x, x = wc := ⟨_, rfl⟩
      go_upto_region 3 with (fail)
      go_cut [11, 12] (fun s11 s12 wx => PV wx s11 (if (sf1, sf2) = (0, 0) then PF else []) ∧ FV wx s12 (sf1, sf2) ∧ Ext wa wx)
      case first =>
        go_wp2_with (go_at_call 16; refine (HPA.out _ HXC.out).mono ?_; rintro e w3 ⟨v3, vs3, rfl, ho3, hr3, hx3⟩; have HL := Lib.hid (own_pv ho3 hr3); have HX3 := Lib.hid hx3; clear ho3 hr3 hx3)
        go_meet
        exact ⟨HL.out.ext ((Ext.refl _).alloc _), new_fv _ _ _, HX3.out.alloc _⟩
      case rest =>
        obtain ⟨p11, f12, hx⟩ := hcut
        have HP11 := Lib.hid p11
        have HF12 := Lib.hid f12
        have HL9 := Lib.hid (HL9.out.ext hx)
        have HF10 := Lib.hid (HF10.out.ext hx)
        have HL7 := Lib.hid (HL7.out.ext hx)
        have HF8 := Lib.hid (HF8.out.ext hx)
        have HXC := Lib.hid (HXC.out.trans hx)
        clear p11 f12 hx HPA
        obtain ⟨wb, rfl⟩ : ∃ x, x = wc := ⟨_, rfl⟩
        go_upto_region 4 with (fail)
        go_cut [13] (fun s13 wx => FV wx s13 (sf1, sf2) ∧ Ext wb wx)
        case first =>
          go_wp2_with (go_at_call 17; refine (HSF.out _ HXC.out).mono ?_; rintro e w3 ⟨rfl, hx3⟩; have HX3 := Lib.hid hx3; clear hx3)
          go_meet
          exact ⟨new_fv _ _ _, HX3.out.alloc _⟩
        case rest =>
          obtain ⟨f13, hx⟩ := hcut
          have HF13 := Lib.hid f13
          have HP11 := Lib.hid (HP11.out.ext hx)
          have HF12 := Lib.hid (HF12.out.ext hx)
          have HL9 := Lib.hid (HL9.out.ext hx)
          have HF10 := Lib.hid (HF10.out.ext hx)
          have HL7 := Lib.hid (HL7.out.ext hx)
          have HF8 := Lib.hid (HF8.out.ext hx)
          have HXC := Lib.hid (HXC.out.trans hx)
          clear f13 hx HSF
          obtain ⟨wd, rfl⟩ : ∃ x, x = wc := ⟨_, rfl⟩
          go_upto_region 5 with (fail)
          go_cut [14] (fun s14 wx => ∃ g, s14 = .pointer (some ⟨g, 0, none⟩) ∧ wd.heap.size ≤ g ∧ FBlk wx g (cf1, cf2) ∧ Ext wd wx)
          case first =>
            go_wp2_with (go_at_call 18; refine (HCF.out _ HXC.out).mono ?_; rintro e w3 ⟨rfl, hx3⟩; have HX3 := Lib.hid hx3; clear hx3)
            go_meet
            exact ⟨_, rfl, HX3.out.size, FBlk.new _ _ _, HX3.out.alloc _⟩
          case rest =>
            obtain ⟨g14, rfl, hg14, hb14, hx14⟩ := hcut
            have HB14 := Lib.hid hb14
            have HX14 := Lib.hid hx14
            have z0 := hb14.c0
            have HRI1 := Lib.hid (HRI.out _ (HXC.out.trans hx14))
            clear hb14 hx14 HCF
            simp only at z0
            go_upto_region 6 with (fail)
            go_cut [46] (fun s46 wx => s46 = .bool (decide (cf1 = 0) && decide (rc ≠ 0)) ∧ Ext wc wx)
            case first =>
              by_cases e1 : cf1 = 0
              · have e1' : (cf1 == 0) = true := by simpa using e1
                go_wp2_with (go_at_call 19; refine HRI1.out.mono ?_; rintro e w' ⟨rfl, hx'⟩; have HX' := Lib.hid hx'; clear hx')
                go_meet
                exact ⟨by by_cases e2 : rc = 0 <;> simp [e1, e2], HX'.out⟩
              · have e1' : (cf1 == 0) = false := by simpa using e1
                go_wp2_with fail
                go_meet
                exact ⟨by simp [e1], Ext.refl _⟩
            case rest =>
              obtain ⟨rfl, hx0⟩ := hcut
              have HB14 := Lib.hid (HB14.out.ext hx0)
              have HX14 := Lib.hid (HX14.out.trans hx0)
              have HRI2 := Lib.hid (HRI.out _ (HXC.out.trans HX14.out))
              have z0 := HB14.out.c0
              have z1 := HB14.out.c1
              have y0 := HB14.out.z 0
              have y1 := HB14.out.z 1
              have hglt : g14 < wc.heap.size := blk_lt HB14.out
              clear hx0 HRI1 HRI
              simp only at z0 z1
              go_upto_if 46 with (fail)
              go_cut [14] (fun s14 wx => s14 = .pointer (some ⟨g14, 0, none⟩) ∧ FBlk wx g14 (lf1, lf2) ∧ Ext wd wx)
              case first =>
                by_cases e1 : cf1 = 0 ∧ rc ≠ 0
                · have HWE := Lib.hid (HLC.out.trans (if_pos e1))
                  have hb : (decide (cf1 = 0) && decide (rc ≠ 0)) = true := by simp [e1.1, e1.2]
                  rw [hb]
                  go_wp2_with (first | (go_at_call 19; refine HRI2.out.mono ?_; rintro e w' ⟨rfl, hx'⟩; have HB15 := Lib.hid (HB14.out.ext hx'); have HX15 := Lib.hid (HX14.out.trans hx'); have hglt' : g14 < w'.heap.size := blk_lt HB15.out; have z0' := HB15.out.c0; have z1' := HB15.out.c1; have y0' := HB15.out.z 0; have y1' := HB15.out.z 1; clear hx') | (go_at_call 20; refine (At_c _ _ _).mono ?_; rintro e w3 ⟨rfl, rfl⟩))
                  go_meet
                  exact ⟨rfl, by rw [HWE.out]; exact (HB15.out.set rc (-3)).alloc _, (HX15.out.set2at hg14 _ _).alloc _⟩
                · have HWE := Lib.hid (HLC.out.trans (if_neg e1))
                  have hb : (decide (cf1 = 0) && decide (rc ≠ 0)) = false := by
                    cases e2 : decide (rc ≠ 0) with
                    | false => simp
                    | true => simp; intro h; exact e1 ⟨h, of_decide_eq_true e2⟩
                  rw [hb]
                  go_wp2_with fail
                  go_meet
                  exact ⟨rfl, by rw [HWE.out]; exact HB14.out, HX14.out⟩
              case rest =>
                obtain ⟨rfl, hb14, hx⟩ := hcut
                obtain ⟨g8, rfl, f8⟩ := HF8.out.ext hx
                obtain ⟨g10, rfl, f10⟩ := HF10.out.ext hx
                obtain ⟨g12, rfl, f12⟩ := HF12.out.ext hx
                obtain ⟨g13, rfl, f13⟩ := HF13.out.ext hx
                have HL7 := Lib.hid (HL7.out.ext hx)
                have HL9 := Lib.hid (HL9.out.ext hx)
                have HP11 := Lib.hid (HP11.out.ext hx)
                have HXC := Lib.hid (HXC.out.trans hx)
                have HG8 := Lib.hid f8
                have HG10 := Lib.hid f10
                have HG12 := Lib.hid f12
                have HG13 := Lib.hid f13
                have HG14 := Lib.hid hb14
                clear hx z0 z1 y0 y1 hglt HF8 HF10 HF12 HF13 HB14 HX14 HRI2 HLC f8 f10 f12 f13 hb14
                go_upto_region 8 with (fail)
                go_cut [72] (fun s72 wx => s72 = .bool false ∧ Ext wc wx)
                case first =>
                  obtain ⟨t0, t0'⟩ : wc.cell? ⟨g8, 0, none⟩ = some (.int .i64 lf1) ∧ wc.cell? ⟨g8, 1, none⟩ = some (.int .i64 lf2) := ⟨HG8.out.c0, HG8.out.c1⟩
                  obtain ⟨t1, t1'⟩ : wc.cell? ⟨g10, 0, none⟩ = some (.int .i64 sf1) ∧ wc.cell? ⟨g10, 1, none⟩ = some (.int .i64 sf2) := ⟨HG10.out.c0, HG10.out.c1⟩
                  obtain ⟨t2, t2'⟩ : wc.cell? ⟨g12, 0, none⟩ = some (.int .i64 sf1) ∧ wc.cell? ⟨g12, 1, none⟩ = some (.int .i64 sf2) := ⟨HG12.out.c0, HG12.out.c1⟩
                  obtain ⟨t3, t3'⟩ : wc.cell? ⟨g13, 0, none⟩ = some (.int .i64 sf1) ∧ wc.cell? ⟨g13, 1, none⟩ = some (.int .i64 sf2) := ⟨HG13.out.c0, HG13.out.c1⟩
                  obtain ⟨t4, t4'⟩ : wc.cell? ⟨g14, 0, none⟩ = some (.int .i64 lf1) ∧ wc.cell? ⟨g14, 1, none⟩ = some (.int .i64 lf2) := ⟨HG14.out.c0, HG14.out.c1⟩
                  go_region_held3 (fun w' => w'.cell? ⟨g8, 0, none⟩ = some (.int .i64 lf1) ∧ w'.cell? ⟨g8, 1, none⟩ = some (.int .i64 lf2) ∧ w'.cell? ⟨g10, 0, none⟩ = some (.int .i64 sf1) ∧ w'.cell? ⟨g10, 1, none⟩ = some (.int .i64 sf2) ∧ w'.cell? ⟨g12, 0, none⟩ = some (.int .i64 sf1) ∧ w'.cell? ⟨g12, 1, none⟩ = some (.int .i64 sf2) ∧ w'.cell? ⟨g13, 0, none⟩ = some (.int .i64 sf1) ∧ w'.cell? ⟨g13, 1, none⟩ = some (.int .i64 sf2) ∧ w'.cell? ⟨g14, 0, none⟩ = some (.int .i64 lf1) ∧ w'.cell? ⟨g14, 1, none⟩ = some (.int .i64 lf2)) (go_keep) ((first | (go_at_call 21; refine (HP.out _ (by first | exact HXC.out | exact HXC.out.drew | exact HXC.out.drewN _)).mono ?_; rintro e w5 ⟨rfl, hx5⟩; have HX5 := Lib.hid hx5; have q0 := hx5.cell t0; have q0' := hx5.cell t0'; have q1 := hx5.cell t1; have q1' := hx5.cell t1'; have q2 := hx5.cell t2; have q2' := hx5.cell t2'; have q3 := hx5.cell t3; have q3' := hx5.cell t3'; have q4 := hx5.cell t4; have q4' := hx5.cell t4'; clear hx5) | (go_at_call 22; refine (HVA.out _ (HXC.out.drew.trans HX5.out)).mono ?_; rintro e w6 ⟨rfl, hx6⟩; have HX6 := Lib.hid hx6; have r0 := hx6.cell q0; have r0' := hx6.cell q0'; have r1 := hx6.cell q1; have r1' := hx6.cell q1'; have r2 := hx6.cell q2; have r2' := hx6.cell q2'; have r3 := hx6.cell q3; have r3' := hx6.cell q3'; have r4 := hx6.cell q4; have r4' := hx6.cell q4'; clear hx6)))
                  all_goals go_wp2_with fail
                  all_goals go_meet
                  all_goals exact ⟨rfl, (Ext.refl _).drew.trans (HX5.out.trans HX6.out)⟩
                case rest =>
                  obtain ⟨rfl, hx⟩ := hcut
                  have HXC := Lib.hid (HXC.out.trans hx)
                  have HL7 := Lib.hid (HL7.out.ext hx)
                  have HL9 := Lib.hid (HL9.out.ext hx)
                  have HP11 := Lib.hid (HP11.out.ext hx)
                  have HG14 := Lib.hid (HG14.out.ext hx)
                  have t3 := (HG13.out.ext hx).c0
                  clear hx HG8 HG10 HG12 HG13 HP HVA
                  simp only at t3
                  by_cases e1 : sf1 = 0
                  · have hsf := HK2.out e1
                    have HPO2 := Lib.hid (HPO.out _ HXC.out hsf)
                    have HZF2 := Lib.hid (fun w1 (x : Ext w w1) => HZF.out w1 x hsf)
                    rw [if_pos hsf] at HL9 HP11
                    obtain ⟨R9, d9, hs9, l9⟩ := HL9.out
                    subst hs9
                    have HL9' := Lib.hid l9
                    clear hsf HPO HZF HK2 HK3 HL9 l9
                    have hb : (sf1 != 0) = false := by simpa using e1
                    clear e1
                    go_upto_region 13 with (go_at_call 23; refine HPO2.out.mono ?_; rintro e w5 ⟨v5, rfl, hp5, hx5⟩; have HPV := Lib.hid hp5; have HX5 := Lib.hid (HXC.out.trans hx5); have HL7' := Lib.hid (HL7.out.ext hx5); have HL9'' := Lib.hid (HL9'.out.ext hx5); have HP11' := Lib.hid (HP11.out.ext hx5); have HG14' := Lib.hid (HG14.out.ext hx5); clear hp5 hx5)
                    obtain ⟨R11, d11, rfl, r11⟩ := HP11'.out
                    obtain ⟨R15, d15, rfl, r15⟩ := HPV.out
                    clear r11 r15 HL7 HL9' HP11 HG14 HXC t3
                    obtain ⟨np, hnp⟩ : ∃ np, np = PF.length := ⟨_, rfl⟩
                    have HNP := Lib.hid hnp
                    have hnl : np ≤ 9223372036854775807 := by rw [hnp]; exact hpl
                    rw [← hnp] at HP11' HPV ⊢
                    clear hnp
                    go_upto_region 15 with (first | (go_at_call 25; refine (HZF2.out _ HX5.out).mono ?_; rintro e w8 ⟨v8, rfl, ho8, hx8⟩; obtain ⟨R8, d8, rfl, l8⟩ := own_lv ho8; have HX8 := Lib.hid hx8; have HIN := Lib.hid (ints_same R9 R8 ZF ZF.length d9 d8 w8 rfl (by unfold maxLen; omega) (HL9''.out.ext hx8) l8); clear hx8 l8 ho8) | (go_at_call 24; refine HIN.out.mono ?_; rintro e w9 ⟨rfl, hx9⟩; have HX9 := Lib.hid (HX8.out.trans hx9); clear hx9))
                    have HXC := Lib.hid (HX5.out.trans HX9.out)
                    have HL7 := Lib.hid (HL7'.out.ext HX9.out)
                    have HP11 := Lib.hid (HP11'.out.ext HX9.out)
                    have HP15 := Lib.hid (HPV.out.ext HX9.out)
                    have HG14 := Lib.hid (HG14'.out.ext HX9.out)
                    clear HX5 HX9 HX8 HL7' HP11' HPV HG14' HIN HZF2 HPO2
                    go_wp2
                    go_loopw [16] (fun i wr => ∃ k : Nat, k ≤ np ∧ i = .int .i64 k ∧ Ext w9 wr) (fun i _ => np - (intOf i).toNat)
                    case atStart => exact ⟨0, Nat.zero_le _, rfl, Ext.refl _⟩
                    case round =>
                      obtain ⟨k, hk, rfl, hx⟩ := hrel
                      have HX := Lib.hid hx
                      clear hx
                      by_cases hkq : k < np
                      · obtain ⟨g, hgk⟩ : ∃ g, PF[k]? = some g := ⟨_, List.getElem?_eq_getElem (by rw [← HNP.out]; exact hkq)⟩
                        obtain ⟨R11', d11', hs11, r11⟩ := HP11.out
                        injection hs11 with a1 a2 a3
                        subst a1
                        clear a2 a3
                        obtain ⟨R15', d15', hs15, r15⟩ := HP15.out
                        injection hs15 with a1 a2 a3
                        subst a1
                        clear a2 a3
                        obtain ⟨b1, o1, rfl, G1, e1, hc1', hs1, hl1, hm1⟩ := r11 k g hgk
                        obtain ⟨b2, o2, rfl, G2, e2, hc2', hs2, hl2, hm2⟩ := r15 k g hgk
                        have q1 := HX.out.cell hc1'
                        have q2 := HX.out.cell hc2'
                        have HIN := Lib.hid (fun n => Ints_c G1 G2 g g e1 e2 (wr.drewN n) (Nat.le_trans hl1 hm1) (Nat.le_trans hl1 hm1) ((hs1.ext HX.out).drewN n) ((hs2.ext HX.out).drewN n))
                        have HTR : Hid (decide (g = g) = true) := Lib.hid (by simp)
                        rw [HTR.out] at HIN
                        have hk0 : (0 : Int) ≤ (k : Int) := by omega
                        have hk1 : (k : Int) < (np : Int) := by omega
                        clear r11 r15 hc1' hc2' hs1 hs2 hl1 hm1 hl2 hm2 hgk
                        go_wp2
                        go_quiet ((go_at_call 24; exact Calls.quiet_of (HIN.out _)))
                        go_wp2
                        exact ⟨⟨k + 1, by omega, by go_num, HX.out.drewN _⟩, by simp [intOf]; omega⟩
                      · have HXC := Lib.hid (HXC.out.trans HX.out)
                        have HL7 := Lib.hid (HL7.out.ext HX.out)
                        have t4 := (HG14.out.ext HX.out).c0
                        simp only at t4
                        by_cases e1 : lf1 = 0
                        · have hlf := HK1.out e1
                          have HLO2 := Lib.hid (HLO.out _ HXC.out hlf)
                          rw [if_pos hlf] at HL7
                          obtain ⟨R7, d7, hs7, l7⟩ := HL7.out
                          subst hs7
                          have HL7' := Lib.hid l7
                          clear hlf HLO HK1 HL7 l7
                          have hb : (lf1 != 0) = false := by simpa using e1
                          clear e1
                          go_wp2_with (first | (go_at_call 26; refine HLO2.out.mono ?_; rintro e w8 ⟨v8, rfl, ho8, hx8⟩; obtain ⟨R8, d8, rfl, l8⟩ := own_lv ho8; have HX8 := Lib.hid hx8; have HIN := Lib.hid (ints_same R7 R8 LF LF.length d7 d8 w8 rfl hll (HL7'.out.ext hx8) l8); clear hx8 l8 ho8) | (go_at_call 24; refine HIN.out.mono ?_; rintro e w9 ⟨rfl, hx9⟩; have HX9 := Lib.hid (HX8.out.trans hx9); clear hx9))
                          go_ret
                          exact ⟨rfl, HXC.out.trans HX9.out⟩
                        · have hb : (lf1 != 0) = true := by simpa using e1
                          rw [if_neg (by intro h; apply e1; injection h)] at HL7
                          obtain ⟨R7, d7, rfl, l7⟩ := HL7.out
                          clear l7
                          go_wp2
                          go_ret
                          exact ⟨rfl, HXC.out⟩
                  · have hb : (sf1 != 0) = true := by simpa using e1
                    have hlf := HK3.out e1
                    have hsf : ¬ (sf1, sf2) = (0, 0) := by intro h; apply e1; injection h
                    rw [if_neg hlf] at HL7
                    rw [if_neg hsf] at HL9 HP11
                    obtain ⟨R7, d7, rfl, l7⟩ := HL7.out
                    obtain ⟨R9, d9, rfl, l9⟩ := HL9.out
                    obtain ⟨R11, d11, rfl, l11⟩ := HP11.out
                    clear l7 l9 l11 hlf hsf
                    go_wp2
                    go_ret
                    exact ⟨rfl, HXC.out⟩
end Go.Proofs.Ytbhcaniopdgjkaa
