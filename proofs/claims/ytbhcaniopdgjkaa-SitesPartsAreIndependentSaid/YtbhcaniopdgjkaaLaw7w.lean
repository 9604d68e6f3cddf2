import Derived.Test.YtbhcaniopdgjkaaLaw7
namespace Go.Proofs.Ytbhcaniopdgjkaa
open Go Go.Proofs Go.RowKit
open Plain (SiteD)
set_option maxHeartbeats 1000000
set_option maxRecDepth 100000
theorem ints_at {P : List (List Nat)} {k : Nat} (h : k < P.length) : ∃ g, P[k]? = some g ∧ (intsL P)[k]? = some (g.map Int.ofNat) := by
  refine ⟨P[k], List.getElem?_eq_getElem h, ?_⟩
  unfold intsL
  rw [List.getElem?_map, List.getElem?_eq_getElem h]; rfl
theorem law7_c (A : Option Addr) (L : List SiteD) (c1 : Nat) (k : Int) (w : World) (hL : L.length ≤ c1) (h1 : Sites w A L) (hg : Glob w) :
    Calls Try.prog 7 #[.slice A L.length c1, .int .i64 k] w (BRet w true) := by
  have HP := Lib.hid (placed_c w hg)
  have HPA := Lib.hid (fun w1 (x : Ext w w1) => Parts_c A L c1 w1 hL (h1.ext x) (hg.ext x))
  have HLX := Lib.hid (fun w1 (x : Ext w w1) C c D d (lost : List Int) (hl : lost.length ≤ 12) (hs : Sl w1 .i64 C (upTo L.length)) (hd : Sl w1 .i64 D lost) (hn : L.length ≤ 10) => LeftX_c A C D L (upTo L.length) lost c1 c d w1 hL (by rw [upTo_len]; unfold maxLen; omega) (by unfold maxLen; omega) (h1.ext x) (hg.ext x) hs hd)
  have HH1 := Lib.hid h1
  have HNIL : Hid (Plain.sitesF L ≠ (0, 0) → (if Plain.sitesF L = (0, 0) then intsL (partsN L) else []) = []) := fun h => by rw [if_neg h]
  have HYES : Hid (Plain.sitesF L = (0, 0) → (if Plain.sitesF L = (0, 0) then intsL (partsN L) else []) = intsL (partsN L)) := fun h => by rw [if_pos h]
  have HK1 := Lib.hid (sitesF_code L)
  have HLEN := Lib.hid (fun (h : Plain.sitesF L = (0, 0)) => sitesF_len h)
  obtain ⟨P, hP⟩ : ∃ P, P = (if Plain.sitesF L = (0, 0) then intsL (partsN L) else []) := ⟨_, rfl⟩
  rw [← hP] at HPA HNIL HYES
  obtain ⟨⟨f1, f2⟩, hf⟩ : ∃ f, f = Plain.sitesF L := ⟨_, rfl⟩
  have HF := Lib.hid hf
  rw [← hf] at HPA HNIL HYES HK1
  clear h1 hg hP hf
  go_enter Try.func7, Try.ntmps7
  go_upto_region 3 with (first | (go_at_call 21; refine HP.out.mono ?_; rintro e w1 ⟨rfl, hx⟩; have HX1 := Lib.hid hx; clear hx))
  go_cut [5, 6] (fun s5 s6 wx => PV wx s5 P ∧ FV wx s6 (f1, f2) ∧ Ext w wx)
  case first =>
    go_wp2_with (go_at_call 16; refine (HPA.out _ HX1.out).mono ?_; rintro e w3 ⟨v3, vs3, rfl, ho3, hr3, hx3⟩; have HL := Lib.hid (own_pv ho3 hr3); have HX3 := Lib.hid (HX1.out.trans hx3); clear ho3 hx3 hr3)
    go_meet
    exact ⟨HL.out.ext ((Ext.refl _).alloc _), new_fv _ _ _, HX3.out.alloc _⟩
  case rest =>
    obtain ⟨hpv, hf6, hxc⟩ := hcut
    have HPV := Lib.hid hpv
    obtain ⟨R5, d5, rfl, _⟩ := hpv
    obtain ⟨g6, rfl, fb6⟩ := hf6
    have HXC := Lib.hid hxc
    have z0 := fb6.c0
    clear fb6 hxc HPA HP
    simp only at z0
    by_cases e1 : f1 = 0
    · have hf0 := HK1.out e1
      have HPY := Lib.hid (HYES.out hf0)
      have hn10 := HLEN.out (HF.out.symm.trans hf0)
      have HSF : Hid (Plain.sitesF L = (0, 0)) := HF.out.symm.trans hf0
      subst e1
      clear hf0
      have hpl : P.length ≤ 1000000 := by
        rw [HPY.out]
        have : (intsL (partsN L)).length ≤ L.length := by
          rw [partsN_C]
          unfold intsL Plain.partsC
          rw [List.length_map, List.length_map]
          exact Nat.le_trans (List.length_filter_le _ _) (by simp)
        omega
      have hwl : IntKind.i64.wrap ((P.length : Int) - 1) = (P.length : Int) - 1 := IntWalk.i64_in _ (by omega)
      cases e2 : inB k 0 ((P.length : Int) - 1) with
      | false =>
        go_wp2_with (go_at_call 29; refine (In_c _ _ _ _).mono ?_; rintro e w' ⟨rfl, rfl⟩)
        go_ret
        exact ⟨rfl, HXC.out⟩
      | true =>
        have hkk : 0 ≤ k ∧ k ≤ (P.length : Int) - 1 := by unfold inB at e2; simpa using e2
        obtain ⟨K, rfl⟩ : ∃ K : Nat, k = K := ⟨k.toNat, by omega⟩
        have hKP : K < P.length := by omega
        obtain ⟨gN, hgN, hgI⟩ := ints_at (P := partsN L) (k := K) (by rw [HPY.out] at hKP; simpa [intsL] using hKP)
        rw [← HPY.out] at hgI
        have HGN := Lib.hid hgN
        obtain ⟨_, _, hRR, hrows⟩ := HPV.out
        cases hRR
        obtain ⟨b5, o5, rfl, G, gd, p5, q5, hg1, hgm⟩ := hrows K _ hgI
        have hglt := (part_closed hgN).1
        obtain ⟨g, hgd⟩ : ∃ g, g = gN.map Int.ofNat := ⟨_, rfl⟩
        rw [← hgd] at p5 q5 hg1
        have HGD := Lib.hid hgd
        have HP5 := Lib.hid p5
        have HQ5 := Lib.hid q5
        have hgl10 : g.length ≤ maxLen := by omega
        obtain ⟨q, hq⟩ : ∃ q, q = g.length := ⟨_, rfl⟩
        rw [← hq] at HP5
        have HQ := Lib.hid hq
        have hqm : q ≤ 9223372036854775807 := by rw [hq]; unfold maxLen at hgl10; omega
        have HGLT : Hid (∀ x ∈ g, ∃ X : Nat, x = X ∧ X < L.length) := by
          show ∀ x ∈ g, _
          rw [hgd]
          intro x hx
          obtain ⟨X, hX, rfl⟩ := List.mem_map.1 hx
          exact ⟨X, rfl, hglt X hX⟩
        have hwl2 : IntKind.i64.wrap ((L.length : Int) - 1) = (L.length : Int) - 1 := IntWalk.i64_in _ (by omega)
        have HGM := Lib.hid hgl10
        obtain ⟨i0, hi', hz0, hz1, hz2⟩ := info_parts info3
        have HI := Lib.hid hi'
        have HZ0 := Lib.hid hz0
        have HZ1 := Lib.hid hz1
        have HZ2 := Lib.hid hz2
        have hK0 : (0 : Int) ≤ (K : Int) := by omega
        have hK1 : (K : Int) < (P.length : Int) := by omega
        obtain ⟨n, hn⟩ : ∃ n, n = L.length := ⟨_, rfl⟩
        have HN := Lib.hid hn
        clear hg1 hgN hgI hrows p5 q5 hglt hgd hi' hz0 hz1 hz2 hq hgm hgl10 hkk HYES HNIL HPV hn
        go_wp2_with (go_at_call 29; refine (In_c _ _ _ _).mono ?_; rintro e w' ⟨rfl, rfl⟩)
        clear e2 z0
        go_loopw [7, 8] (fun v i wr => ∃ m : Nat, m ≤ 12 ∧ i = .int .i64 m ∧ FillI wc wr (zsTo L g m) v) (fun _ i _ => 12 - (intOf i).toNat)
        case atStart => exact ⟨0, Nat.zero_le _, rfl, fill0 wc⟩
        case round =>
          obtain ⟨m, hm, rfl, hr⟩ := hrel
          have HR := Lib.hid hr
          clear hr
          have hlen := zsTo_len L g m
          by_cases hlt : m < 12
          · have HNX := Lib.hid (zsTo_next L g m)
            obtain ⟨p, hp⟩ : ∃ p : Int → Bool, p = fun j => hasB (Plain.zonesAt L j) (m : Int) := ⟨_, rfl⟩
            rw [← hp] at HNX
            have HPP := Lib.hid hp
            obtain ⟨M, hM⟩ : ∃ M, zsTo L g m = M := ⟨_, rfl⟩
            rw [hM] at HR hlen HNX
            clear hp hM
            go_wp2
            rw [show decide ((m : Int) < 12) = true from decide_eq_true (by omega)]
            go_loopw [7, 9] (fun v i wx => ∃ j : Nat, j ≤ q ∧ i = .int .i64 j ∧ noneTo p g j ∧ FillI wc wx M v) (fun _ i _ => q - (intOf i).toNat)
            case atStart => exact ⟨0, Nat.zero_le _, rfl, by simp [noneTo], HR.out⟩
            case round =>
              clear HR
              obtain ⟨j, hj, rfl, hno, hr⟩ := hrel
              have HR := Lib.hid hr
              have HNO := Lib.hid hno
              obtain ⟨VA, vc, rfl, _, _, _, _⟩ := own_sl hr.own
              have hlw := hr.x.size
              have p5 := hr.x.cell HP5.out
              clear hr hno
              by_cases hjl : j < q
              · have hkl : j < g.length := by rw [← HQ.out]; exact hjl
                obtain ⟨b, o, x, rfl, hx, ha⟩ := (HQ5.out.ext HR.out.x).at2 hkl
                obtain ⟨X, rfl, hXL⟩ := HGLT.out x (List.mem_of_getElem? hx.out)
                obtain ⟨s, hs⟩ : ∃ s, L[X]? = some s := ⟨_, List.getElem?_eq_getElem hXL⟩
                obtain ⟨bs, os, rfl, hsite⟩ := HH1.out X s hs
                have hsite := hsite.ext (HXC.out.trans HR.out.x)
                obtain ⟨Z, zc, k1, _, k2, _, k3⟩ := hsite.zones
                have HHA := Lib.hid (Has_c Z s.zones zc (m : Int) wr (by omega) k3)
                have HPS : Hid (hasB s.zones m = p (X : Int)) := by
                  show _ = _
                  rw [HPP.out]
                  show hasB s.zones m = hasB (Plain.zonesAt L (X : Int)) m
                  unfold Plain.zonesAt
                  rw [Int.toNat_natCast, hs]; rfl
                rw [HPS.out] at HHA
                have hin : inB (X : Int) 0 ((L.length : Int) - 1) = true := by unfold inB; simp; omega
                have hX0 : (0 : Int) ≤ (X : Int) := by omega
                have hX1 : (X : Int) < (L.length : Int) := by omega
                clear hs hsite hkl k2 k3
                cases hps : p (X : Int) with
                | true =>
                  rw [hps] at HHA
                  have HE : Hid (zsTo L g (m + 1) = M ++ [(m : Int)]) := by show _ = _; rw [HNX.out, if_pos (any_here hx.out hps)]
                  clear hps
                  go_wp2_with (first | (go_at_call 29; refine (In_c _ _ _ _).mono ?_; rintro e w' ⟨rfl, rfl⟩) | (go_at_call 34; refine HHA.out.mono ?_; rintro e w' ⟨rfl, rfl⟩) | (at_builtin; refine wpList_append_sl rfl _ _ 23 rfl wc.heap.size 3 i0 (.int .i64 0) 1 8 Try.underlying23 HI.out HZ0.out HZ1.out HZ2.out rfl (by decide) _ M.length (M.map (Value.int .i64)) rfl (HR.out.own.alloc _) (some ⟨wr.heap.size, 0, none⟩) 1 1 [.int .i64 (m : Int)] rfl (slc_new wr [.int .i64 (m : Int)] 3) rfl (by simp [Value.oneCell']) (by unfold maxLen; omega) (by omega) (by simp; omega) ?_; intro v3 w3 ho3 hg3 _h3; have HN3 := Lib.hid (HR.out.add ho3 hg3); obtain ⟨A3, c3', rfl, _, _, _, _⟩ := own_sl ho3; clear ho3 hg3 _h3))
                  refine ⟨⟨m + 1, by omega, by go_num, by rw [HE.out]; exact HN3.out⟩, by simp [intOf]; omega⟩
                | false =>
                  rw [hps] at HHA
                  have HY := Lib.hid (any_take HNO.out hx.out hps)
                  clear hps
                  go_wp2_with (first | (go_at_call 29; refine (In_c _ _ _ _).mono ?_; rintro e w' ⟨rfl, rfl⟩) | (go_at_call 34; refine HHA.out.mono ?_; rintro e w' ⟨rfl, rfl⟩))
                  go_round
                  case rel => exact ⟨j + 1, by omega, by go_num, HY.out, HR.out⟩
                  case measure => simp [intOf]; omega
              · have HE : Hid (zsTo L g (m + 1) = M) := by show _ = _; rw [HNX.out, if_neg (by rw [any_full HNO.out (by rw [← HQ.out]; omega)]; simp), List.append_nil]
                go_wp2
                refine ⟨⟨m + 1, by omega, by go_num, by rw [HE.out]; exact HR.out⟩, by simp [intOf]; omega⟩
          · obtain rfl : m = 12 := by omega
            obtain ⟨VA, vc, rfl, _, _, _, l7⟩ := own_sl HR.out.own
            have HL7 := Lib.hid l7
            clear l7
            have hz12 := zsTo_len L g 12
            have HFT := Lib.hid (indep_fault HSF.out g)
            have HLAW : Hid (∀ (i : Nat) (s : SiteD), L[i]? = some s → hasB (leftR L (upTo L.length) (zsTo L g 12)) (i : Int) = !(hasB g (i : Int) && decide ((0 : Int) < s.zones.length))) := fun i s hs => by
              rw [HGD.out]
              exact indep_law HSF.out HGN.out hs
            have HLL : Hid ((leftR L (upTo L.length) (zsTo L g 12)).length ≤ maxLen) := Nat.le_trans (leftR_len _ _ _) (by rw [upTo_len]; unfold maxLen; omega)
            have HAL := Lib.hid (AllOf_c A L.length c1 wr (by omega))
            have HLX2 := Lib.hid (fun w1 (x : Ext w w1) C c (hs : Sl w1 .i64 C (upTo L.length)) (hd : Sl w1 .i64 VA (zsTo L g 12)) => HLX.out w1 x C c VA vc (zsTo L g 12) hz12 hs hd hn10)
            rw [HFT.out, upTo_len] at HLX2
            generalize leftR L (upTo L.length) (zsTo L g 12) = al at *
            go_upto_region 18 with (first | (go_at_call 35; refine HAL.out.mono ?_; rintro e w2 ⟨v2, rfl, ho2, hx2⟩; obtain ⟨R2, rc2, rfl, _, _, _, l2⟩ := own_sl ho2; rw [upTo_len]; have HL2 := Lib.hid l2; have HX2 := Lib.hid ((HXC.out.trans HR.out.x).trans hx2); have HXR := Lib.hid (HR.out.x.trans hx2); have HD2 := Lib.hid (Sl.ext HL7.out hx2); clear ho2 hx2 l2) | (go_at_call 14; refine (HLX2.out w2 HX2.out R2 rc2 HL2.out HD2.out).mono ?_; rintro e w3 ⟨v3, rfl, ho3, hx3⟩; obtain ⟨R10, d10, rfl, _, _, _, l10⟩ := own_sl ho3; have HL10 := Lib.hid l10; have HX3 := Lib.hid (HX2.out.trans hx3); have HXR3 := Lib.hid (HXR.out.trans hx3); clear ho3 hx3 l10))
            have hx9 := (Ext.refl w3).alloc (.cells #[.int .i64 0, .int .i64 0] 25)
            have y0 := (FBlk.new w3 0 0).c0
            generalize w3.alloc (.cells #[.int .i64 0, .int .i64 0] 25) = w9 at hx9 y0 ⊢
            have HX9 := Lib.hid (HX3.out.trans hx9)
            have HL9 := Lib.hid (Sl.ext HL10.out hx9)
            have p9 := (HXR3.out.trans hx9).cell HP5.out
            have HQ9 := Lib.hid (HQ5.out.ext (HXR3.out.trans hx9))
            have HHGA := Lib.hid (fun (i : Nat) => Has_c G g gd (i : Int) w9 HGM.out HQ9.out)
            rw [← HQ.out] at HHGA
            clear hx9
            go_wp2
            clear y0
            go_loop [12] (fun v => ∃ i : Nat, i ≤ L.length ∧ v = .int .i64 i) (fun v => L.length - (intOf v).toNat)
            case atStart => exact ⟨0, Nat.zero_le _, rfl⟩
            case round =>
              obtain ⟨i, hil, rfl⟩ := hrel
              by_cases hin : i < L.length
              · obtain ⟨s, hs⟩ : ∃ s, L[i]? = some s := ⟨_, List.getElem?_eq_getElem hin⟩
                have HLI := Lib.hid (HLAW.out i s hs)
                obtain ⟨bs, os, rfl, hsite⟩ := HH1.out i s hs
                have hsite := hsite.ext HX9.out
                obtain ⟨Z, zc, k1, _, _, _, _⟩ := hsite.zones
                have HHG := Lib.hid (HHGA.out i)
                have HHB := Lib.hid (Has_c R10 al d10 (i : Int) w9 HLL.out HL9.out)
                rw [HLI.out] at HHB
                obtain ⟨zl, hzl⟩ : ∃ zl, zl = s.zones.length := ⟨_, rfl⟩
                rw [← hzl] at k1 HHB
                clear hzl
                have hi0 : (0 : Int) ≤ (i : Int) := by omega
                have hi1 : (i : Int) < (L.length : Int) := by omega
                clear hs hsite
                cases hb : hasB g (i : Int) with
                | true =>
                  rw [hb] at HHG HHB
                  clear hb
                  by_cases hz : (0 : Int) < (zl : Int)
                  · rw [decide_eq_true hz] at HHB
                    have hzn : 0 < zl := by omega
                    have hzd : decide (0 < zl) = true := decide_eq_true hzn
                    go_wp2_with (first | (go_at_call_of 34 (Value.slice G q gd); refine HHG.out.mono ?_; rintro e w' ⟨rfl, rfl⟩) | (go_at_call_of 34 (Value.slice R10 al.length d10); refine HHB.out.mono ?_; rintro e w' ⟨rfl, rfl⟩))
                    first
                      | exact ⟨⟨i + 1, by omega, by go_num⟩, by simp [intOf]; omega⟩
                      | (go_round; (case rel => exact ⟨i + 1, by omega, by go_num⟩); (case measure => simp [intOf]; omega))
                  · rw [decide_eq_false hz] at HHB
                    obtain rfl : zl = 0 := by omega
                    clear hz
                    go_wp2_with (first | (go_at_call_of 34 (Value.slice G q gd); refine HHG.out.mono ?_; rintro e w' ⟨rfl, rfl⟩) | (go_at_call_of 34 (Value.slice R10 al.length d10); refine HHB.out.mono ?_; rintro e w' ⟨rfl, rfl⟩))
                    first
                      | exact ⟨⟨i + 1, by omega, by go_num⟩, by simp [intOf]; omega⟩
                      | (go_round; (case rel => exact ⟨i + 1, by omega, by go_num⟩); (case measure => simp [intOf]; omega))
                | false =>
                  rw [hb] at HHG HHB
                  clear hb
                  go_wp2_with (first | (go_at_call_of 34 (Value.slice G q gd); refine HHG.out.mono ?_; rintro e w' ⟨rfl, rfl⟩) | (go_at_call_of 34 (Value.slice R10 al.length d10); refine HHB.out.mono ?_; rintro e w' ⟨rfl, rfl⟩))
                  first
                    | exact ⟨⟨i + 1, by omega, by go_num⟩, by simp [intOf]; omega⟩
                    | (go_round; (case rel => exact ⟨i + 1, by omega, by go_num⟩); (case measure => simp [intOf]; omega))
              · go_wp2
                go_ret
                exact ⟨rfl, HX9.out⟩
    · have e1' : (f1 != 0) = true := by simpa using e1
      have e1'' : (f1 == 0) = false := by simpa using e1
      have hnil := HNIL.out (by intro h; apply e1; injection h)
      subst hnil
      go_wp2
      go_ret
      exact ⟨rfl, HXC.out⟩
end Go.Proofs.Ytbhcaniopdgjkaa
