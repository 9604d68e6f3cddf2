import Derived.Test.YtbhcaniopdgjkaaMg41
namespace Go.Proofs.Ytbhcaniopdgjkaa
open Go Go.Proofs Go.RowKit
open Plain (SiteD)
set_option maxHeartbeats 4000000
set_option maxRecDepth 100000
theorem law12_c (A : Option Addr) (L : List SiteD) (c1 : Nat) (losses left : Int) (w : World) (hL : L.length ≤ c1) (h1 : Sites w A L) (hg : Glob w) :
    Calls Try.prog 12 #[.slice A L.length c1, .int .i64 losses, .int .i64 left] w (BRet w true) := by
  have HCS := Lib.hid (chosen_c w hg)
  obtain ⟨lo, hlo⟩ : ∃ x, IntKind.i64.wrap (losses + 1) = x := ⟨_, rfl⟩
  obtain ⟨le, hle⟩ : ∃ x, IntKind.i64.wrap (left + 1) = x := ⟨_, rfl⟩
  have HP1 := Lib.hid (fun w1 (x : Ext w w1) => Plan_c A L c1 losses left w1 hL (h1.ext x) (hg.ext x))
  have HP2 := Lib.hid (fun w1 (x : Ext w w1) => Plan_c A L c1 lo left w1 hL (h1.ext x) (hg.ext x))
  have HP3 := Lib.hid (fun w1 (x : Ext w w1) => Plan_c A L c1 losses le w1 hL (h1.ext x) (hg.ext x))
  have HH2 := Lib.hid (fun w1 (x : Ext w w1) C c (hs : Sl w1 .i64 C (planR L lo left).1) => Holds_c A C L (planR L lo left).1 c1 c losses left w1 hL (planR_len _ _ _) (h1.ext x) (hg.ext x) hs)
  have HH3 := Lib.hid (fun w1 (x : Ext w w1) C c (hs : Sl w1 .i64 C (planR L losses le).1) => Holds_c A C L (planR L losses le).1 c1 c losses left w1 hL (planR_len _ _ _) (h1.ext x) (hg.ext x) hs)
  have HM2 : Hid (inB losses 0 11 = true → inB left 0 9 = true → ((planR L losses left).2.2.1 ≠ 0 → (planR L lo left).2.2.1 ≠ 0) ∧ ((planR L losses left).2.2.1 = 0 → (planR L lo left).2.2.1 = 0 → (decide (holdsFault L (planR L lo left).1 losses left = (0, 0)) && holdF L losses left (planR L lo left).1) = true ∧ (planR L losses left).2.1 ≤ (planR L lo left).2.1)) := by
    intro a b
    have a' := inB_iff.1 a
    have b' := inB_iff.1 b
    have e : lo = losses + 1 := by rw [← hlo, IntWalk.i64_in _ (by omega)]
    exact more_law L losses left lo left (inB_iff.2 (by omega)) (inB_iff.2 (by omega)) (inB_iff.2 (by omega)) (inB_iff.2 (by omega)) (by omega) (by omega)
  have HM3 : Hid (inB losses 0 11 = true → inB left 0 9 = true → ((planR L losses left).2.2.1 ≠ 0 → (planR L losses le).2.2.1 ≠ 0) ∧ ((planR L losses left).2.2.1 = 0 → (planR L losses le).2.2.1 = 0 → (decide (holdsFault L (planR L losses le).1 losses left = (0, 0)) && holdF L losses left (planR L losses le).1) = true ∧ (planR L losses left).2.1 ≤ (planR L losses le).2.1)) := by
    intro a b
    have a' := inB_iff.1 a
    have b' := inB_iff.1 b
    have e : le = left + 1 := by rw [← hle, IntWalk.i64_in _ (by omega)]
    exact more_law L losses left losses le (inB_iff.2 (by omega)) (inB_iff.2 (by omega)) (inB_iff.2 (by omega)) (inB_iff.2 (by omega)) (by omega) (by omega)
  generalize (decide (holdsFault L (planR L lo left).1 losses left = (0, 0)) && holdF L losses left (planR L lo left).1) = b2 at *
  generalize (decide (holdsFault L (planR L losses le).1 losses left = (0, 0)) && holdF L losses left (planR L losses le).1) = b3 at *
  generalize holdsFault L (planR L lo left).1 losses left = hf2 at *
  generalize holdsFault L (planR L losses le).1 losses left = hf3 at *
  generalize planR L losses left = PR1 at *
  generalize planR L lo left = PR2 at *
  generalize planR L losses le = PR3 at *
  obtain ⟨P1, n1, f1, f2⟩ := PR1
  obtain ⟨P2, n2, g1, g2⟩ := PR2
  obtain ⟨P3, n3, k1, k2⟩ := PR3
  clear h1 hg
  go_enter Try.func12, Try.ntmps12
  go_upto_region 3 with (go_at_call 38; refine HCS.out.mono ?_; rintro e w2 ⟨rfl, hx2⟩; have HX2 := Lib.hid hx2; clear hx2)
  go_cut [7, 8, 9] (fun sp sn sf wx => sn = .int .i64 n1 ∧ FV wx sf (f1, f2) ∧ Ext w wx)
  case first =>
    go_wp2_with (go_at_call 40; refine (HP1.out _ HX2.out).mono ?_; rintro e w3 ⟨v3, rfl, hl3, hx3⟩; have HX3 := Lib.hid (HX2.out.trans hx3); clear hl3 hx3)
    go_meet
    exact ⟨rfl, new_fv _ _ _, HX3.out.alloc _⟩
  case rest =>
    obtain ⟨rfl, ff, hxc⟩ := hcut
    have HXC := Lib.hid hxc
    have HF1 := Lib.hid ff
    clear ff hxc HP1 HCS HX2
    obtain ⟨wa, rfl⟩ : ∃ x, x = wc := ⟨_, rfl⟩
    go_upto_region 4 with (fail)
    go_cut [10, 11, 12] (fun sp sn sf wx => LV wx sp P2 ∧ sn = .int .i64 n2 ∧ FV wx sf (g1, g2) ∧ Ext wa wx)
    case first =>
      go_wp2_with (go_at_call 40; refine (HP2.out _ HXC.out).mono ?_; rintro e w3 ⟨v3, rfl, hl3, hx3⟩; have HL := Lib.hid hl3; have HX3 := Lib.hid hx3; clear hl3 hx3)
      go_meet
      exact ⟨HL.out.ext ((Ext.refl _).alloc _), rfl, new_fv _ _ _, HX3.out.alloc _⟩
    case rest =>
      obtain ⟨lp, rfl, ff, hx⟩ := hcut
      have HF1 := Lib.hid (HF1.out.ext hx)
      have HXC := Lib.hid (HXC.out.trans hx)
      have HF2 := Lib.hid ff
      have HL2 := Lib.hid lp
      clear ff hx HP2 lp
      obtain ⟨wb, rfl⟩ : ∃ x, x = wc := ⟨_, rfl⟩
      go_upto_region 5 with (fail)
      go_cut [13, 14, 15] (fun sp sn sf wx => LV wx sp P3 ∧ sn = .int .i64 n3 ∧ FV wx sf (k1, k2) ∧ Ext wb wx)
      case first =>
        go_wp2_with (go_at_call 40; refine (HP3.out _ HXC.out).mono ?_; rintro e w3 ⟨v3, rfl, hl3, hx3⟩; have HL := Lib.hid hl3; have HX3 := Lib.hid hx3; clear hl3 hx3)
        go_meet
        exact ⟨HL.out.ext ((Ext.refl _).alloc _), rfl, new_fv _ _ _, HX3.out.alloc _⟩
      case rest =>
        obtain ⟨lp, rfl, ff, hx⟩ := hcut
        have HXC := Lib.hid (HXC.out.trans hx)
        have HL2 := HL2.out.ext hx
        obtain ⟨g9, rfl, f9⟩ := HF1.out.ext hx
        obtain ⟨g12, rfl, f12⟩ := HF2.out.ext hx
        obtain ⟨g15, rfl, f15⟩ := ff
        obtain ⟨R10, d10, rfl, l10⟩ := HL2
        obtain ⟨R13, d13, rfl, l13⟩ := lp
        have HG9 := Lib.hid f9
        have HG12 := Lib.hid f12
        have HG15 := Lib.hid f15
        have HL10 := Lib.hid l10
        have HL13 := Lib.hid l13
        have z9 := f9.c0
        have z12 := f12.c0
        have z15 := f15.c0
        clear hx HP3 f9 f12 f15 l10 l13 HF1 HF2
        simp only at z9 z12 z15
        clear hlo hle
        cases e1 : inB losses 0 11 with
        | false =>
          go_wp2_with (go_at_call 29; refine (In_c _ _ _ _).mono ?_; rintro e w' ⟨rfl, rfl⟩; rw [e1])
          go_ret
          exact ⟨rfl, HXC.out⟩
        | true =>
          cases e2 : inB left 0 9 with
          | false =>
            go_wp2_with (go_at_call 29; refine (In_c _ _ _ _).mono ?_; rintro e w' ⟨rfl, rfl⟩; first | rw [e1] | rw [e2])
            go_ret
            exact ⟨rfl, HXC.out⟩
          | true =>
            obtain ⟨m2, m2'⟩ := HM2.out e1 e2
            obtain ⟨m3, m3'⟩ := HM3.out e1 e2
            have HA2 := Lib.hid m2
            have HA3 := Lib.hid m3
            have HB2 := Lib.hid m2'
            have HB3 := Lib.hid m3'
            clear m2 m2' m3 m3' HM2 HM3
            by_cases e3 : f1 = 0
            · have e3' : (f1 != 0) = false := by simpa using e3
              go_upto_region 10 with (go_at_call 29; refine (In_c _ _ _ _).mono ?_; rintro e w' ⟨rfl, rfl⟩; first | rw [e1] | rw [e2])
              obtain ⟨wd, rfl⟩ : ∃ x, x = wc := ⟨_, rfl⟩
              go_cut [16, 17] (fun sb sf wx => sb = .bool b2 ∧ Ext wd wx)
              case first =>
                go_wp2_with (go_at_call 36; refine (HH2.out _ HXC.out R10 d10 HL10.out).mono ?_; rintro e w3 ⟨rfl, hx3⟩; have HX3 := Lib.hid hx3; clear hx3)
                go_meet
                exact ⟨rfl, HX3.out.alloc _⟩
              case rest =>
                obtain ⟨rfl, hx⟩ := hcut
                have HXD := Lib.hid hx
                have HXC2 := Lib.hid (HXC.out.trans hx)
                clear hx
                obtain ⟨we, rfl⟩ : ∃ x, x = wc := ⟨_, rfl⟩
                go_upto_region 11 with (fail)
                go_cut [18, 19] (fun sb sf wx => sb = .bool b3 ∧ Ext we wx)
                case first =>
                  go_wp2_with (go_at_call 36; refine (HH3.out _ HXC2.out R13 d13 (HL13.out.ext HXD.out)).mono ?_; rintro e w3 ⟨rfl, hx3⟩; have HX3 := Lib.hid hx3; clear hx3)
                  go_meet
                  exact ⟨rfl, HX3.out.alloc _⟩
                case rest =>
                  obtain ⟨rfl, hx⟩ := hcut
                  have HXF := Lib.hid (HXC2.out.trans hx)
                  have x12 := (HXD.out.trans hx).cell z12
                  have x15 := (HXD.out.trans hx).cell z15
                  clear hx z9 z12 z15
                  by_cases e4 : g1 = 0
                  · obtain ⟨u1, u2⟩ := HB2.out e3 e4
                    subst u1
                    have e4' : (g1 != 0) = false := by simpa using e4
                    by_cases e5 : k1 = 0
                    · obtain ⟨v1, v2⟩ := HB3.out e3 e5
                      subst v1
                      have e5' : (k1 != 0) = false := by simpa using e5
                      clear e3 e4 e5
                      go_wp2
                      go_ret
                      exact ⟨rfl, HXF.out⟩
                    · have e5' : (k1 != 0) = true := by simpa using e5
                      clear e3 e4
                      go_wp2
                      go_ret
                      exact ⟨rfl, HXF.out⟩
                  · have e4' : (g1 != 0) = true := by simpa using e4
                    by_cases e5 : k1 = 0
                    · obtain ⟨v1, v2⟩ := HB3.out e3 e5
                      subst v1
                      have e5' : (k1 != 0) = false := by simpa using e5
                      clear e3 e5
                      go_wp2
                      go_ret
                      exact ⟨rfl, HXF.out⟩
                    · have e5' : (k1 != 0) = true := by simpa using e5
                      clear e3
                      go_wp2
                      go_ret
                      exact ⟨rfl, HXF.out⟩
            · have e3' : (f1 != 0) = true := by simpa using e3
              have e4' : (g1 != 0) = true := by simpa using HA2.out e3
              have e5' : (k1 != 0) = true := by simpa using HA3.out e3
              go_wp2_with (go_at_call 29; refine (In_c _ _ _ _).mono ?_; rintro e w' ⟨rfl, rfl⟩; first | rw [e1] | rw [e2])
              go_ret
              exact ⟨rfl, HXC.out⟩
end Go.Proofs.Ytbhcaniopdgjkaa
namespace Go.Proofs.Ytbhcaniopdgjkaa
open Go Go.Proofs Go.RowKit
open Plain (SiteD)
set_option maxHeartbeats 4000000
set_option maxRecDepth 100000
theorem law13_c (A : Option Addr) (L : List SiteD) (c1 : Nat) (need losses zone : Int) (w : World) (hL : L.length ≤ c1) (h1 : Sites w A L) (hg : Glob w) :
    Calls Try.prog 13 #[.slice A L.length c1, .int .i64 need, .int .i64 losses, .int .i64 zone] w (BRet w true) := by
  have HCS := Lib.hid (chosen_c w hg)
  have HMA := Lib.hid (fun w1 (x : Ext w w1) => Keepers_c A L c1 need losses w1 hL (h1.ext x) (hg.ext x))
  have HLE := Lib.hid (fun w1 (x : Ext w w1) R c D d (hs : Sl w1 .i64 R (keepR L need losses).1) (hz : Sl w1 .i64 D [zone]) => Left_c A R D L (keepR L need losses).1 [zone] c1 c d w1 hL (keepR_len L need losses) (by unfold maxLen; simp) (h1.ext x) (hg.ext x) hs hz)
  have HTL := Lib.hid (tell_law L need losses zone)
  have HNI := Lib.hid (keepR_nil L need losses)
  generalize keepR L need losses = PR at *
  obtain ⟨P1, P2, f1, f2⟩ := PR
  have HAL := Lib.hid (Plain.leftF_len L P1 [zone])
  generalize leftFault L P1 [zone] = LF at *
  generalize Plain.leftF L P1 [zone] = AF at *
  clear h1 hg
  go_enter Try.func13, Try.ntmps13
  go_upto_region 3 with (go_at_call 38; refine HCS.out.mono ?_; rintro e w2 ⟨rfl, hx2⟩; have HX2 := Lib.hid hx2; clear hx2)
  go_cut [9, 10, 11] (fun sp sn sf wx => LV wx sp P1 ∧ FV wx sf (f1, f2) ∧ Ext w wx)
  case first =>
    go_wp2_with (go_at_call 42; refine (HMA.out _ HX2.out).mono ?_; rintro e w3 ⟨v3, rfl, hl3, hx3⟩; have HL := Lib.hid hl3; have HX3 := Lib.hid (HX2.out.trans hx3); clear hl3 hx3)
    go_meet
    exact ⟨HL.out.ext ((Ext.refl _).alloc _), new_fv _ _ _, HX3.out.alloc _⟩
  case rest =>
    obtain ⟨lp, ff, hxc⟩ := hcut
    have HXC := Lib.hid hxc
    obtain ⟨g11, rfl, ff⟩ := ff
    obtain ⟨R9, d9, rfl, l9⟩ := lp
    have z0 := ff.c0
    have HL9 := Lib.hid l9
    clear l9 ff hxc HMA HCS HX2
    simp only at z0
    by_cases e1 : f1 = 0
    · have e1' : (f1 != 0) = false := by simpa using e1
      have e1'' : (f1 == 0) = true := by simpa using e1
      cases e2 : inB zone 0 11 with
      | false =>
        go_wp2_with (go_at_call 29; refine (In_c _ _ _ _).mono ?_; rintro e w' ⟨rfl, rfl⟩; rw [e2])
        go_ret
        exact ⟨rfl, HXC.out⟩
      | true =>
        obtain ⟨t1, t2, t3, t4⟩ := HTL.out e1 (inB_iff.1 e2)
        subst t1
        have HLE2 := Lib.hid (fun D d hz => HLE.out (wc.alloc (.cells (([zone] : List Int).map (Value.int .i64)).toArray 3)) (HXC.out.alloc _) R9 d9 D d (HL9.out.ext ((Ext.refl _).alloc _)) hz)
        simp only [if_true] at HLE2
        have HT2 := Lib.hid t2
        have HT3 := Lib.hid t3
        have HT4 := Lib.hid t4
        clear HTL HNI HLE e1 t2 t3 t4
        go_upto_region 6 with (go_at_call 29; refine (In_c _ _ _ _).mono ?_; rintro e w' ⟨rfl, rfl⟩; rw [e2])
        go_cut [12, 13] (fun sa sf wx => LV wx sa AF ∧ FV wx sf (0, 0) ∧ Ext wc wx)
        case first =>
          go_wp2_with (go_at_call 14; refine (HLE2.out _ _ (new_sl1 wc [zone] _ rfl)).mono ?_; rintro e w3 ⟨v3, rfl, ho3, hx3⟩; have HL := Lib.hid (own_lv ho3); have HX3 := Lib.hid (((Ext.refl wc).alloc _).trans hx3); clear ho3 hx3)
          go_meet
          exact ⟨HL.out.ext ((Ext.refl _).alloc _), new_fv _ _ _, HX3.out.alloc _⟩
        case rest =>
          obtain ⟨la, fa, hx⟩ := hcut
          obtain ⟨g13, rfl, fa⟩ := fa
          obtain ⟨R12, d12, rfl, l12⟩ := la
          have k0 := fa.c0
          have HXF := Lib.hid (HXC.out.trans hx)
          clear l12 fa hx z0 HLE2
          simp only at k0
          obtain ⟨np, hnp⟩ : ∃ np, np = P1.length := ⟨_, rfl⟩
          obtain ⟨na, hna⟩ : ∃ na, na = AF.length := ⟨_, rfl⟩
          rw [← hnp, ← hna] at HT2
          rw [← hna] at HT3
          rw [← hnp] at HT4
          rw [← hnp, ← hna] at HAL
          rw [← hnp, ← hna]
          clear hnp hna
          have q2 := HT2.out
          have q4 := HT4.out
          have HNA : Hid (na ≤ 100) := Nat.le_trans HAL.out (by omega)
          have hw : IntKind.i64.wrap ((np : Int) - (na : Int)) = (np : Int) - (na : Int) := IntWalk.i64_in _ (by have := HNA.out; omega)
          by_cases e0 : losses = 0
          · have e0' : (losses == 0) = true := by simpa using e0
            go_wp2
            go_ret
            exact ⟨rfl, HXF.out⟩
          · have e0' : (losses == 0) = false := by simpa using e0
            have q3 := HT3.out.resolve_left e0
            go_wp2
            go_ret
            exact ⟨rfl, HXF.out⟩
    · have e1' : (f1 != 0) = true := by simpa using e1
      have e1'' : (f1 == 0) = false := by simpa using e1
      have hn := HNI.out e1
      subst hn
      go_wp2_with fail
      go_ret
      exact ⟨rfl, HXC.out⟩
end Go.Proofs.Ytbhcaniopdgjkaa
