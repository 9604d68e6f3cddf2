import Derived.Test.YtbhcaniopdgjkaaMg29
namespace Go.Proofs.Ytbhcaniopdgjkaa
open Go Go.Proofs Go.RowKit
open Plain (SiteD)
set_option maxHeartbeats 1000000
set_option maxRecDepth 100000
theorem lesserB_c (A B : Option Addr) (a b : List Int) (c d : Nat) (w : World) (ha : a.length ≤ maxLen) (hb : b.length ≤ maxLen) (h1 : Sl w .i64 A a) (h2 : Sl w .i64 B b) : Calls Try.prog 63 #[.slice A a.length c, .slice B b.length d] w (BRet w (Plain.lexB a b)) := by
  refine (lesser_c A B a b c d w ha hb h1 h2).mono ?_
  rintro e w' ⟨rfl, m, rfl⟩
  exact ⟨rfl, (Ext.refl w).drewN m⟩
/-- What the specification asks of further sites. -/
def specB (L : List SiteD) (rest : List Int) (losses left need : Int) (added : List Int) : Bool := (decide (need ≤ 0) || Plain.apartF L need (Plain.mergedF rest added L.length)) && holdF L losses left (Plain.mergedF rest added L.length)
theorem CheapestOf_c (A R F : Option Addr) (L : List SiteD) (rest free : List Int) (c1 c2 c3 : Nat) (losses : Nat) (left need : Int) (w : World) (hs : Plain.sitesF L = (0, 0)) (hn : free.length ≤ 10) (hr : rest.length ≤ 1000) (hk : losses ≤ 12) (h1 : Sites w A L) (h2 : Sl w .i64 R rest) (h3 : Sl w .i64 F free) (hb : ∀ i, 0 ≤ costAt L i ∧ costAt L i ≤ 1000000) (hv : ∀ i ∈ free, 0 ≤ i ∧ i < L.length) :
    Calls Try.prog 41 #[.slice A L.length c1, .slice R rest.length c2, .slice F free.length c3, .int .i64 (losses : Int), .int .i64 left, .int .i64 need] w fun e w' => ∃ v, e = .returned (.tuple #[v, .int .i64 (costF L ((Plain.accC (costF L) (specB L rest losses left need) free (2 ^ free.length)).getD [])), .bool (Plain.accC (costF L) (specB L rest losses left need) free (2 ^ free.length)).isSome]) ∧ LV w' v ((Plain.accC (costF L) (specB L rest losses left need) free (2 ^ free.length)).getD []) ∧ Ext w w' := by
  have h10 := sitesF_len hs
  have HPW : Hid (powI free.length = ((2 ^ free.length : Nat) : Int)) := Lib.hid rfl
  have HPO := Lib.hid (fun w' => power_c free.length w' (by omega))
  have hpw := powI_le (n := free.length) (by omega)
  have HSUB := Lib.hid (fun w' (x : Ext w w') (m : Nat) (hm : m ≤ 1048576) => subset_c F free c3 m w' (by omega) hm (h3.ext x))
  have HSL := Lib.hid (fun m => (Plain.subsetM_sub free m).length_le)
  have HSV := Lib.hid (fun m i (hi : i ∈ Plain.subsetM free m) => hv i ((Plain.subsetM_sub free m).subset hi))
  have HCO := Lib.hid (fun w' (x : Ext w w') C c (ch : List Int) (hl : ch.length ≤ 10) (hvc : ∀ i ∈ ch, 0 ≤ i ∧ i < L.length) (hsl : Sl w' .i64 C ch) => CostOf_c A C L ch c1 c w' (by omega) hb (h1.ext x) hsl hvc)
  have HME := Lib.hid (fun w' (x : Ext w w') C c (ch : List Int) (hl : ch.length ≤ 10) (hsl : Sl w' .i64 C ch) => Merged_c R C rest ch c2 c L.length w' (by unfold maxLen; omega) (by unfold maxLen; omega) (by omega) (h2.ext x) hsl)
  have HMV := Lib.hid (fun ch => (Plain.risingC_iff.1 (Plain.merged_rising rest ch L.length)).2)
  have HML := Lib.hid (fun ch => Nat.le_trans (merged_len rest ch L.length) h10)
  have HAP := Lib.hid (fun w' (x : Ext w w') C c (ch : List Int) (hl : ch.length ≤ 10) (hvc : ∀ i ∈ ch, 0 ≤ i ∧ i < L.length) (hsl : Sl w' .i64 C ch) => ApartOf_c A C L ch c1 c need w' (by omega) (by omega) (h1.ext x) hsl hvc)
  have HHO := Lib.hid (fun w' (x : Ext w w') C c (ch : List Int) (hl : ch.length ≤ 10) (hvc : ∀ i ∈ ch, 0 ≤ i ∧ i < L.length) (hsl : Sl w' .i64 C ch) => HoldsOf_c A C L ch c1 c losses left w' (by omega) (by omega) (by omega) (h1.ext x) hsl hvc)
  have HACC := Lib.hid (fun k b (h : Plain.accC (costF L) (specB L rest losses left need) free k = some b) => Plain.accC_mem h)
  have HFV := Lib.hid hv
  obtain ⟨ST, hST⟩ : ∃ ST, ST = Plain.accC (costF L) (specB L rest losses left need) free (2 ^ free.length) := ⟨_, rfl⟩
  rw [← hST]
  have HST := Lib.hid hST
  have hfl : free.length ≤ 10 := hn
  generalize powI free.length = PW at HPW HPO hpw
  obtain ⟨hp1, hp2⟩ := hpw
  obtain ⟨n, hnn⟩ : ∃ n, n = free.length := ⟨_, rfl⟩
  have HN := Lib.hid hnn
  rw [← hnn] at HPO HSUB ⊢
  clear h1 h2 h3 hb hv hST hs hn hnn
  go_enter Try.func41, Try.ntmps41
  go_wp2
  go_loopw [15, 16, 17] (fun v15 v16 v17 wr => ∃ k : Nat, (k : Int) ≤ PW ∧ v17 = .int .i64 k ∧ LV wr v15 ((Plain.accC (costF L) (specB L rest losses left need) free k).getD []) ∧ v16 = .bool (Plain.accC (costF L) (specB L rest losses left need) free k).isSome ∧ Ext w wr) (fun _ _ v17 _ => PW.toNat - (intOf v17).toNat)
  case atStart => exact ⟨0, by omega, rfl, ⟨none, 0, rfl, SlC.nil _ _⟩, rfl, Ext.refl _⟩
  case round =>
    obtain ⟨k, hkp, rfl, ⟨R15, d15, rfl, l15⟩, rfl, hx⟩ := hrel
    have HSU := Lib.hid (Plain.accC_succ (costF L) (specB L rest losses left need) free k)
    have HACK := Lib.hid (HACC.out k)
    obtain ⟨st, hst⟩ : ∃ st, st = Plain.accC (costF L) (specB L rest losses left need) free k := ⟨_, rfl⟩
    rw [← hst] at l15 HSU HACK
    rw [← hst]
    have HSK := Lib.hid hst
    clear hst
    have HBF := Lib.hid (fun c => better_form (costF L) c st)
    obtain ⟨fd, hfd⟩ : ∃ fd, st.isSome = fd := ⟨_, rfl⟩
    obtain ⟨Bq, hBq⟩ : ∃ Bq, st.getD [] = Bq := ⟨_, rfl⟩
    have hBs : Bq.Sublist free := by
      rw [← hBq]
      cases hst : st with
      | none => exact List.nil_sublist _
      | some b => exact (HACK.out b hst).1
    have hBl : Bq.length ≤ 10 := Nat.le_trans hBs.length_le hfl
    have HBV : Hid (∀ i ∈ Bq, 0 ≤ i ∧ i < L.length) := fun i hi => HFV.out i (hBs.subset hi)
    rw [hfd, hBq] at HBF
    rw [hBq] at l15
    rw [hfd, hBq]
    have HFD := Lib.hid hfd
    have HBQ := Lib.hid hBq
    have HL15 := Lib.hid l15
    have HX := Lib.hid hx
    clear l15 hx hfd hBq hBs HACK HACC
    obtain ⟨Wk, rfl⟩ : ∃ Wk, Wk = wr := ⟨_, rfl⟩
    by_cases hkl : (k : Int) < PW
    · obtain ⟨S, hS⟩ : ∃ S, S = Plain.subsetM free k := ⟨_, rfl⟩
      have HSB := Lib.hid (HSUB.out Wk HX.out k (by omega))
      have hSl : S.length ≤ 10 := by rw [hS]; exact Nat.le_trans (HSL.out k) hfl
      have HSVK := Lib.hid (HSV.out k)
      rw [← hS] at HSB HSU HSVK
      have HBF2 := Lib.hid (HBF.out S)
      clear hS HSUB HSL HSV HBF
      go_upto_region 6 with (go_at_call 61; refine (HPO.out _).mono ?_; rintro e w' ⟨rfl, rfl⟩)
      go_cut [18] (fun s18 wx => LV wx s18 S ∧ Ext Wk wx)
      case first =>
        go_wp2_with (go_at_call 62; refine HSB.out.mono ?_; rintro e w5 ⟨v5, rfl, ho5, hx5⟩; have HL5 := Lib.hid (own_lv ho5); have HX5 := Lib.hid hx5; clear ho5 hx5)
        go_meet
        exact ⟨HL5.out, HX5.out⟩
      case rest =>
        obtain ⟨⟨R18, d18, rfl, l18⟩, hx⟩ := hcut
        have HL18 := Lib.hid l18
        have HL15 := Lib.hid (HL15.out.ext hx)
        have HX := Lib.hid (HX.out.trans hx)
        clear l18 hx
        have HC1 := Lib.hid (HCO.out wc HX.out R18 d18 S hSl HSVK.out HL18.out)
        have HC2 := Lib.hid (HCO.out wc HX.out R15 d15 Bq hBl HBV.out HL15.out)
        have HLX := Lib.hid (lesserB_c R18 R15 S Bq d18 d15 wc (by unfold maxLen; omega) (by unfold maxLen; omega) HL18.out HL15.out)
        generalize costF L S = cS at HC1 HBF2
        generalize costF L Bq = lc at HC2 HBF2
        generalize Plain.lexB S Bq = lx at HLX HBF2
        obtain ⟨bo, hbo⟩ : ∃ bo, bo = Plain.betterO (costF L) S st := ⟨_, rfl⟩
        rw [← hbo] at HBF2 HSU
        have HSP : Hid (specB L rest losses left need S = ((decide (need ≤ 0) || Plain.apartF L need (Plain.mergedF rest S L.length)) && holdF L losses left (Plain.mergedF rest S L.length))) := Lib.hid rfl
        have HMEK := Lib.hid (fun w' (x : Ext w w') C c (hsl : Sl w' .i64 C S) => HME.out w' x C c S hSl hsl)
        have HMVK := Lib.hid (HMV.out S)
        have HMLK := Lib.hid (HML.out S)
        have HAPK := Lib.hid (fun w' (x : Ext w w') C c (hsl : Sl w' .i64 C (Plain.mergedF rest S L.length)) => HAP.out w' x C c _ HMLK.out HMVK.out hsl)
        have HHOK := Lib.hid (fun w' (x : Ext w w') C c (hsl : Sl w' .i64 C (Plain.mergedF rest S L.length)) => HHO.out w' x C c _ HMLK.out HMVK.out hsl)
        generalize Plain.apartF L need (Plain.mergedF rest S L.length) = ap at *
        generalize holdF L losses left (Plain.mergedF rest S L.length) = ho at *
        generalize Plain.mergedF rest S L.length = MF at *
        clear hbo HME HMV HML HAP HHO HCO HSB
        cases fd with
        | false =>
          have HBT : Hid (bo = true) := by show _ = _; rw [HBF2.out]; simp
          by_cases hnd : need > 0
          · cases ap with
            | false =>
              have HS2 : Hid (Plain.accC (costF L) (specB L rest losses left need) free (k + 1) = st) := by
                show _ = _
                rw [HSU.out, HSP.out]
                have : decide (need ≤ 0) = false := decide_eq_false (by omega)
                simp [this]
              go_wp2_with (first | (go_at_call 33; refine (HMEK.out _ HX.out _ _ HL18.out).mono ?_; rintro e w7 ⟨v7, rfl, ho7, hx7⟩; obtain ⟨R7, d7, rfl, l7⟩ := own_lv ho7; have HX7 := Lib.hid (HX.out.trans hx7); have HL7 := Lib.hid l7; have HM18 := Lib.hid (HL18.out.ext hx7); have HM15 := Lib.hid (HL15.out.ext hx7); clear ho7 hx7 l7) | (go_at_call 74; refine (HAPK.out _ HX7.out _ _ HL7.out).mono ?_; rintro e w8 ⟨rfl, hx8⟩; have HX8 := Lib.hid (HX7.out.trans hx8); have HL8 := Lib.hid (HL7.out.ext hx8); have HN18 := Lib.hid (HM18.out.ext hx8); have HN15 := Lib.hid (HM15.out.ext hx8); clear hx8))
              refine ⟨⟨k + 1, by omega, by go_num, ?_, ?_, HX8.out⟩, by simp [intOf]; omega⟩
              · rw [HS2.out, HBQ.out]
                exact ⟨R15, d15, rfl, HN15.out⟩
              · rw [HS2.out, HFD.out]
            | true =>
              cases ho with
              | false =>
                have HS2 : Hid (Plain.accC (costF L) (specB L rest losses left need) free (k + 1) = st) := by
                  show _ = _
                  rw [HSU.out, HSP.out]
                  simp
                go_wp2_with (first | (go_at_call 33; refine (HMEK.out _ HX.out _ _ HL18.out).mono ?_; rintro e w7 ⟨v7, rfl, ho7, hx7⟩; obtain ⟨R7, d7, rfl, l7⟩ := own_lv ho7; have HX7 := Lib.hid (HX.out.trans hx7); have HL7 := Lib.hid l7; have HM18 := Lib.hid (HL18.out.ext hx7); have HM15 := Lib.hid (HL15.out.ext hx7); clear ho7 hx7 l7) | (go_at_call 74; refine (HAPK.out _ HX7.out _ _ HL7.out).mono ?_; rintro e w8 ⟨rfl, hx8⟩; have HX8 := Lib.hid (HX7.out.trans hx8); have HL8 := Lib.hid (HL7.out.ext hx8); have HN18 := Lib.hid (HM18.out.ext hx8); have HN15 := Lib.hid (HM15.out.ext hx8); clear hx8) | (go_at_call 39; refine (HHOK.out _ HX8.out _ _ HL8.out).mono ?_; rintro e w9 ⟨rfl, hx9⟩; have HX9 := Lib.hid (HX8.out.trans hx9); have HO18 := Lib.hid (HN18.out.ext hx9); have HO15 := Lib.hid (HN15.out.ext hx9); clear hx9))
                refine ⟨⟨k + 1, by omega, by go_num, ?_, ?_, HX9.out⟩, by simp [intOf]; omega⟩
                · rw [HS2.out, HBQ.out]
                  exact ⟨R15, d15, rfl, HO15.out⟩
                · rw [HS2.out, HFD.out]
              | true =>
                have HS2 : Hid (Plain.accC (costF L) (specB L rest losses left need) free (k + 1) = some S) := by
                  show _ = _
                  rw [HSU.out, HSP.out, HBT.out]
                  simp
                go_wp2_with (first | (go_at_call 33; refine (HMEK.out _ HX.out _ _ HL18.out).mono ?_; rintro e w7 ⟨v7, rfl, ho7, hx7⟩; obtain ⟨R7, d7, rfl, l7⟩ := own_lv ho7; have HX7 := Lib.hid (HX.out.trans hx7); have HL7 := Lib.hid l7; have HM18 := Lib.hid (HL18.out.ext hx7); have HM15 := Lib.hid (HL15.out.ext hx7); clear ho7 hx7 l7) | (go_at_call 74; refine (HAPK.out _ HX7.out _ _ HL7.out).mono ?_; rintro e w8 ⟨rfl, hx8⟩; have HX8 := Lib.hid (HX7.out.trans hx8); have HL8 := Lib.hid (HL7.out.ext hx8); have HN18 := Lib.hid (HM18.out.ext hx8); have HN15 := Lib.hid (HM15.out.ext hx8); clear hx8) | (go_at_call 39; refine (HHOK.out _ HX8.out _ _ HL8.out).mono ?_; rintro e w9 ⟨rfl, hx9⟩; have HX9 := Lib.hid (HX8.out.trans hx9); have HO18 := Lib.hid (HN18.out.ext hx9); have HO15 := Lib.hid (HN15.out.ext hx9); clear hx9))
                refine ⟨⟨k + 1, by omega, by go_num, ?_, ?_, HX9.out⟩, by simp [intOf]; omega⟩
                · rw [HS2.out]
                  exact ⟨R18, d18, rfl, HO18.out⟩
                · rw [HS2.out]
                  rfl
          · cases ho with
            | false =>
              have HS2 : Hid (Plain.accC (costF L) (specB L rest losses left need) free (k + 1) = st) := by
                show _ = _
                rw [HSU.out, HSP.out]
                simp
              go_wp2_with (first | (go_at_call 33; refine (HMEK.out _ HX.out _ _ HL18.out).mono ?_; rintro e w7 ⟨v7, rfl, ho7, hx7⟩; obtain ⟨R7, d7, rfl, l7⟩ := own_lv ho7; have HX7 := Lib.hid (HX.out.trans hx7); have HL7 := Lib.hid l7; have HM18 := Lib.hid (HL18.out.ext hx7); have HM15 := Lib.hid (HL15.out.ext hx7); clear ho7 hx7 l7) | (go_at_call 39; refine (HHOK.out _ HX7.out _ _ HL7.out).mono ?_; rintro e w9 ⟨rfl, hx9⟩; have HX9 := Lib.hid (HX7.out.trans hx9); have HO18 := Lib.hid (HM18.out.ext hx9); have HO15 := Lib.hid (HM15.out.ext hx9); clear hx9))
              refine ⟨⟨k + 1, by omega, by go_num, ?_, ?_, HX9.out⟩, by simp [intOf]; omega⟩
              · rw [HS2.out, HBQ.out]
                exact ⟨R15, d15, rfl, HO15.out⟩
              · rw [HS2.out, HFD.out]
            | true =>
              have HS2 : Hid (Plain.accC (costF L) (specB L rest losses left need) free (k + 1) = some S) := by
                show _ = _
                rw [HSU.out, HSP.out, HBT.out]
                have : decide (need ≤ 0) = true := decide_eq_true (by omega)
                simp [this]
              go_wp2_with (first | (go_at_call 33; refine (HMEK.out _ HX.out _ _ HL18.out).mono ?_; rintro e w7 ⟨v7, rfl, ho7, hx7⟩; obtain ⟨R7, d7, rfl, l7⟩ := own_lv ho7; have HX7 := Lib.hid (HX.out.trans hx7); have HL7 := Lib.hid l7; have HM18 := Lib.hid (HL18.out.ext hx7); have HM15 := Lib.hid (HL15.out.ext hx7); clear ho7 hx7 l7) | (go_at_call 39; refine (HHOK.out _ HX7.out _ _ HL7.out).mono ?_; rintro e w9 ⟨rfl, hx9⟩; have HX9 := Lib.hid (HX7.out.trans hx9); have HO18 := Lib.hid (HM18.out.ext hx9); have HO15 := Lib.hid (HM15.out.ext hx9); clear hx9))
              refine ⟨⟨k + 1, by omega, by go_num, ?_, ?_, HX9.out⟩, by simp [intOf]; omega⟩
              · rw [HS2.out]
                exact ⟨R18, d18, rfl, HO18.out⟩
              · rw [HS2.out]
                rfl
        | true =>
          rcases Int.lt_trichotomy cS lc with q | q | q
          · have q1 : (cS == lc) = false := by simp; omega
            have q3 : ¬ cS > lc := by omega
            have HBT : Hid (bo = true) := by show _ = _; rw [HBF2.out]; simp [q]
            by_cases hnd : need > 0
            · cases ap with
              | false =>
                have HS2 : Hid (Plain.accC (costF L) (specB L rest losses left need) free (k + 1) = st) := by
                  show _ = _
                  rw [HSU.out, HSP.out]
                  have : decide (need ≤ 0) = false := decide_eq_false (by omega)
                  simp [this]
                go_wp2_with (first | (go_at_call 73; first | ((with_reducible refine HC1.out.mono ?_); rintro e w' ⟨rfl, rfl⟩) | ((with_reducible refine HC2.out.mono ?_); rintro e w' ⟨rfl, rfl⟩)) | (go_at_call 33; refine (HMEK.out _ HX.out _ _ HL18.out).mono ?_; rintro e w7 ⟨v7, rfl, ho7, hx7⟩; obtain ⟨R7, d7, rfl, l7⟩ := own_lv ho7; have HX7 := Lib.hid (HX.out.trans hx7); have HL7 := Lib.hid l7; have HM18 := Lib.hid (HL18.out.ext hx7); have HM15 := Lib.hid (HL15.out.ext hx7); clear ho7 hx7 l7) | (go_at_call 74; refine (HAPK.out _ HX7.out _ _ HL7.out).mono ?_; rintro e w8 ⟨rfl, hx8⟩; have HX8 := Lib.hid (HX7.out.trans hx8); have HL8 := Lib.hid (HL7.out.ext hx8); have HN18 := Lib.hid (HM18.out.ext hx8); have HN15 := Lib.hid (HM15.out.ext hx8); clear hx8))
                refine ⟨⟨k + 1, by omega, by go_num, ?_, ?_, HX8.out⟩, by simp [intOf]; omega⟩
                · rw [HS2.out, HBQ.out]
                  exact ⟨R15, d15, rfl, HN15.out⟩
                · rw [HS2.out, HFD.out]
              | true =>
                cases ho with
                | false =>
                  have HS2 : Hid (Plain.accC (costF L) (specB L rest losses left need) free (k + 1) = st) := by
                    show _ = _
                    rw [HSU.out, HSP.out]
                    simp
                  go_wp2_with (first | (go_at_call 73; first | ((with_reducible refine HC1.out.mono ?_); rintro e w' ⟨rfl, rfl⟩) | ((with_reducible refine HC2.out.mono ?_); rintro e w' ⟨rfl, rfl⟩)) | (go_at_call 33; refine (HMEK.out _ HX.out _ _ HL18.out).mono ?_; rintro e w7 ⟨v7, rfl, ho7, hx7⟩; obtain ⟨R7, d7, rfl, l7⟩ := own_lv ho7; have HX7 := Lib.hid (HX.out.trans hx7); have HL7 := Lib.hid l7; have HM18 := Lib.hid (HL18.out.ext hx7); have HM15 := Lib.hid (HL15.out.ext hx7); clear ho7 hx7 l7) | (go_at_call 74; refine (HAPK.out _ HX7.out _ _ HL7.out).mono ?_; rintro e w8 ⟨rfl, hx8⟩; have HX8 := Lib.hid (HX7.out.trans hx8); have HL8 := Lib.hid (HL7.out.ext hx8); have HN18 := Lib.hid (HM18.out.ext hx8); have HN15 := Lib.hid (HM15.out.ext hx8); clear hx8) | (go_at_call 39; refine (HHOK.out _ HX8.out _ _ HL8.out).mono ?_; rintro e w9 ⟨rfl, hx9⟩; have HX9 := Lib.hid (HX8.out.trans hx9); have HO18 := Lib.hid (HN18.out.ext hx9); have HO15 := Lib.hid (HN15.out.ext hx9); clear hx9))
                  refine ⟨⟨k + 1, by omega, by go_num, ?_, ?_, HX9.out⟩, by simp [intOf]; omega⟩
                  · rw [HS2.out, HBQ.out]
                    exact ⟨R15, d15, rfl, HO15.out⟩
                  · rw [HS2.out, HFD.out]
                | true =>
                  have HS2 : Hid (Plain.accC (costF L) (specB L rest losses left need) free (k + 1) = some S) := by
                    show _ = _
                    rw [HSU.out, HSP.out, HBT.out]
                    simp
                  go_wp2_with (first | (go_at_call 73; first | ((with_reducible refine HC1.out.mono ?_); rintro e w' ⟨rfl, rfl⟩) | ((with_reducible refine HC2.out.mono ?_); rintro e w' ⟨rfl, rfl⟩)) | (go_at_call 33; refine (HMEK.out _ HX.out _ _ HL18.out).mono ?_; rintro e w7 ⟨v7, rfl, ho7, hx7⟩; obtain ⟨R7, d7, rfl, l7⟩ := own_lv ho7; have HX7 := Lib.hid (HX.out.trans hx7); have HL7 := Lib.hid l7; have HM18 := Lib.hid (HL18.out.ext hx7); have HM15 := Lib.hid (HL15.out.ext hx7); clear ho7 hx7 l7) | (go_at_call 74; refine (HAPK.out _ HX7.out _ _ HL7.out).mono ?_; rintro e w8 ⟨rfl, hx8⟩; have HX8 := Lib.hid (HX7.out.trans hx8); have HL8 := Lib.hid (HL7.out.ext hx8); have HN18 := Lib.hid (HM18.out.ext hx8); have HN15 := Lib.hid (HM15.out.ext hx8); clear hx8) | (go_at_call 39; refine (HHOK.out _ HX8.out _ _ HL8.out).mono ?_; rintro e w9 ⟨rfl, hx9⟩; have HX9 := Lib.hid (HX8.out.trans hx9); have HO18 := Lib.hid (HN18.out.ext hx9); have HO15 := Lib.hid (HN15.out.ext hx9); clear hx9))
                  refine ⟨⟨k + 1, by omega, by go_num, ?_, ?_, HX9.out⟩, by simp [intOf]; omega⟩
                  · rw [HS2.out]
                    exact ⟨R18, d18, rfl, HO18.out⟩
                  · rw [HS2.out]
                    rfl
            · cases ho with
              | false =>
                have HS2 : Hid (Plain.accC (costF L) (specB L rest losses left need) free (k + 1) = st) := by
                  show _ = _
                  rw [HSU.out, HSP.out]
                  simp
                go_wp2_with (first | (go_at_call 73; first | ((with_reducible refine HC1.out.mono ?_); rintro e w' ⟨rfl, rfl⟩) | ((with_reducible refine HC2.out.mono ?_); rintro e w' ⟨rfl, rfl⟩)) | (go_at_call 33; refine (HMEK.out _ HX.out _ _ HL18.out).mono ?_; rintro e w7 ⟨v7, rfl, ho7, hx7⟩; obtain ⟨R7, d7, rfl, l7⟩ := own_lv ho7; have HX7 := Lib.hid (HX.out.trans hx7); have HL7 := Lib.hid l7; have HM18 := Lib.hid (HL18.out.ext hx7); have HM15 := Lib.hid (HL15.out.ext hx7); clear ho7 hx7 l7) | (go_at_call 39; refine (HHOK.out _ HX7.out _ _ HL7.out).mono ?_; rintro e w9 ⟨rfl, hx9⟩; have HX9 := Lib.hid (HX7.out.trans hx9); have HO18 := Lib.hid (HM18.out.ext hx9); have HO15 := Lib.hid (HM15.out.ext hx9); clear hx9))
                refine ⟨⟨k + 1, by omega, by go_num, ?_, ?_, HX9.out⟩, by simp [intOf]; omega⟩
                · rw [HS2.out, HBQ.out]
                  exact ⟨R15, d15, rfl, HO15.out⟩
                · rw [HS2.out, HFD.out]
              | true =>
                have HS2 : Hid (Plain.accC (costF L) (specB L rest losses left need) free (k + 1) = some S) := by
                  show _ = _
                  rw [HSU.out, HSP.out, HBT.out]
                  have : decide (need ≤ 0) = true := decide_eq_true (by omega)
                  simp [this]
                go_wp2_with (first | (go_at_call 73; first | ((with_reducible refine HC1.out.mono ?_); rintro e w' ⟨rfl, rfl⟩) | ((with_reducible refine HC2.out.mono ?_); rintro e w' ⟨rfl, rfl⟩)) | (go_at_call 33; refine (HMEK.out _ HX.out _ _ HL18.out).mono ?_; rintro e w7 ⟨v7, rfl, ho7, hx7⟩; obtain ⟨R7, d7, rfl, l7⟩ := own_lv ho7; have HX7 := Lib.hid (HX.out.trans hx7); have HL7 := Lib.hid l7; have HM18 := Lib.hid (HL18.out.ext hx7); have HM15 := Lib.hid (HL15.out.ext hx7); clear ho7 hx7 l7) | (go_at_call 39; refine (HHOK.out _ HX7.out _ _ HL7.out).mono ?_; rintro e w9 ⟨rfl, hx9⟩; have HX9 := Lib.hid (HX7.out.trans hx9); have HO18 := Lib.hid (HM18.out.ext hx9); have HO15 := Lib.hid (HM15.out.ext hx9); clear hx9))
                refine ⟨⟨k + 1, by omega, by go_num, ?_, ?_, HX9.out⟩, by simp [intOf]; omega⟩
                · rw [HS2.out]
                  exact ⟨R18, d18, rfl, HO18.out⟩
                · rw [HS2.out]
                  rfl
          · have q1 : (cS == lc) = true := by simpa using q
            have q3 : ¬ cS > lc := by omega
            have q2 : ¬ cS < lc := by omega
            rcases Nat.lt_trichotomy S.length Bq.length with r | r | r
            · have r1 : ((S.length : Int) == (Bq.length : Int)) = false := by simp; omega
              have r3 : ¬ S.length > Bq.length := by omega
              have HBT : Hid (bo = true) := by show _ = _; rw [HBF2.out]; simp [q, r]
              clear q
              by_cases hnd : need > 0
              · cases ap with
                | false =>
                  have HS2 : Hid (Plain.accC (costF L) (specB L rest losses left need) free (k + 1) = st) := by
                    show _ = _
                    rw [HSU.out, HSP.out]
                    have : decide (need ≤ 0) = false := decide_eq_false (by omega)
                    simp [this]
                  go_wp2_with (first | (go_at_call 73; first | ((with_reducible refine HC1.out.mono ?_); rintro e w' ⟨rfl, rfl⟩) | ((with_reducible refine HC2.out.mono ?_); rintro e w' ⟨rfl, rfl⟩)) | (go_at_call 33; refine (HMEK.out _ HX.out _ _ HL18.out).mono ?_; rintro e w7 ⟨v7, rfl, ho7, hx7⟩; obtain ⟨R7, d7, rfl, l7⟩ := own_lv ho7; have HX7 := Lib.hid (HX.out.trans hx7); have HL7 := Lib.hid l7; have HM18 := Lib.hid (HL18.out.ext hx7); have HM15 := Lib.hid (HL15.out.ext hx7); clear ho7 hx7 l7) | (go_at_call 74; refine (HAPK.out _ HX7.out _ _ HL7.out).mono ?_; rintro e w8 ⟨rfl, hx8⟩; have HX8 := Lib.hid (HX7.out.trans hx8); have HL8 := Lib.hid (HL7.out.ext hx8); have HN18 := Lib.hid (HM18.out.ext hx8); have HN15 := Lib.hid (HM15.out.ext hx8); clear hx8))
                  refine ⟨⟨k + 1, by omega, by go_num, ?_, ?_, HX8.out⟩, by simp [intOf]; omega⟩
                  · rw [HS2.out, HBQ.out]
                    exact ⟨R15, d15, rfl, HN15.out⟩
                  · rw [HS2.out, HFD.out]
                | true =>
                  cases ho with
                  | false =>
                    have HS2 : Hid (Plain.accC (costF L) (specB L rest losses left need) free (k + 1) = st) := by
                      show _ = _
                      rw [HSU.out, HSP.out]
                      simp
                    go_wp2_with (first | (go_at_call 73; first | ((with_reducible refine HC1.out.mono ?_); rintro e w' ⟨rfl, rfl⟩) | ((with_reducible refine HC2.out.mono ?_); rintro e w' ⟨rfl, rfl⟩)) | (go_at_call 33; refine (HMEK.out _ HX.out _ _ HL18.out).mono ?_; rintro e w7 ⟨v7, rfl, ho7, hx7⟩; obtain ⟨R7, d7, rfl, l7⟩ := own_lv ho7; have HX7 := Lib.hid (HX.out.trans hx7); have HL7 := Lib.hid l7; have HM18 := Lib.hid (HL18.out.ext hx7); have HM15 := Lib.hid (HL15.out.ext hx7); clear ho7 hx7 l7) | (go_at_call 74; refine (HAPK.out _ HX7.out _ _ HL7.out).mono ?_; rintro e w8 ⟨rfl, hx8⟩; have HX8 := Lib.hid (HX7.out.trans hx8); have HL8 := Lib.hid (HL7.out.ext hx8); have HN18 := Lib.hid (HM18.out.ext hx8); have HN15 := Lib.hid (HM15.out.ext hx8); clear hx8) | (go_at_call 39; refine (HHOK.out _ HX8.out _ _ HL8.out).mono ?_; rintro e w9 ⟨rfl, hx9⟩; have HX9 := Lib.hid (HX8.out.trans hx9); have HO18 := Lib.hid (HN18.out.ext hx9); have HO15 := Lib.hid (HN15.out.ext hx9); clear hx9))
                    refine ⟨⟨k + 1, by omega, by go_num, ?_, ?_, HX9.out⟩, by simp [intOf]; omega⟩
                    · rw [HS2.out, HBQ.out]
                      exact ⟨R15, d15, rfl, HO15.out⟩
                    · rw [HS2.out, HFD.out]
                  | true =>
                    have HS2 : Hid (Plain.accC (costF L) (specB L rest losses left need) free (k + 1) = some S) := by
                      show _ = _
                      rw [HSU.out, HSP.out, HBT.out]
                      simp
                    go_wp2_with (first | (go_at_call 73; first | ((with_reducible refine HC1.out.mono ?_); rintro e w' ⟨rfl, rfl⟩) | ((with_reducible refine HC2.out.mono ?_); rintro e w' ⟨rfl, rfl⟩)) | (go_at_call 33; refine (HMEK.out _ HX.out _ _ HL18.out).mono ?_; rintro e w7 ⟨v7, rfl, ho7, hx7⟩; obtain ⟨R7, d7, rfl, l7⟩ := own_lv ho7; have HX7 := Lib.hid (HX.out.trans hx7); have HL7 := Lib.hid l7; have HM18 := Lib.hid (HL18.out.ext hx7); have HM15 := Lib.hid (HL15.out.ext hx7); clear ho7 hx7 l7) | (go_at_call 74; refine (HAPK.out _ HX7.out _ _ HL7.out).mono ?_; rintro e w8 ⟨rfl, hx8⟩; have HX8 := Lib.hid (HX7.out.trans hx8); have HL8 := Lib.hid (HL7.out.ext hx8); have HN18 := Lib.hid (HM18.out.ext hx8); have HN15 := Lib.hid (HM15.out.ext hx8); clear hx8) | (go_at_call 39; refine (HHOK.out _ HX8.out _ _ HL8.out).mono ?_; rintro e w9 ⟨rfl, hx9⟩; have HX9 := Lib.hid (HX8.out.trans hx9); have HO18 := Lib.hid (HN18.out.ext hx9); have HO15 := Lib.hid (HN15.out.ext hx9); clear hx9))
                    refine ⟨⟨k + 1, by omega, by go_num, ?_, ?_, HX9.out⟩, by simp [intOf]; omega⟩
                    · rw [HS2.out]
                      exact ⟨R18, d18, rfl, HO18.out⟩
                    · rw [HS2.out]
                      rfl
              · cases ho with
                | false =>
                  have HS2 : Hid (Plain.accC (costF L) (specB L rest losses left need) free (k + 1) = st) := by
                    show _ = _
                    rw [HSU.out, HSP.out]
                    simp
                  go_wp2_with (first | (go_at_call 73; first | ((with_reducible refine HC1.out.mono ?_); rintro e w' ⟨rfl, rfl⟩) | ((with_reducible refine HC2.out.mono ?_); rintro e w' ⟨rfl, rfl⟩)) | (go_at_call 33; refine (HMEK.out _ HX.out _ _ HL18.out).mono ?_; rintro e w7 ⟨v7, rfl, ho7, hx7⟩; obtain ⟨R7, d7, rfl, l7⟩ := own_lv ho7; have HX7 := Lib.hid (HX.out.trans hx7); have HL7 := Lib.hid l7; have HM18 := Lib.hid (HL18.out.ext hx7); have HM15 := Lib.hid (HL15.out.ext hx7); clear ho7 hx7 l7) | (go_at_call 39; refine (HHOK.out _ HX7.out _ _ HL7.out).mono ?_; rintro e w9 ⟨rfl, hx9⟩; have HX9 := Lib.hid (HX7.out.trans hx9); have HO18 := Lib.hid (HM18.out.ext hx9); have HO15 := Lib.hid (HM15.out.ext hx9); clear hx9))
                  refine ⟨⟨k + 1, by omega, by go_num, ?_, ?_, HX9.out⟩, by simp [intOf]; omega⟩
                  · rw [HS2.out, HBQ.out]
                    exact ⟨R15, d15, rfl, HO15.out⟩
                  · rw [HS2.out, HFD.out]
                | true =>
                  have HS2 : Hid (Plain.accC (costF L) (specB L rest losses left need) free (k + 1) = some S) := by
                    show _ = _
                    rw [HSU.out, HSP.out, HBT.out]
                    have : decide (need ≤ 0) = true := decide_eq_true (by omega)
                    simp [this]
                  go_wp2_with (first | (go_at_call 73; first | ((with_reducible refine HC1.out.mono ?_); rintro e w' ⟨rfl, rfl⟩) | ((with_reducible refine HC2.out.mono ?_); rintro e w' ⟨rfl, rfl⟩)) | (go_at_call 33; refine (HMEK.out _ HX.out _ _ HL18.out).mono ?_; rintro e w7 ⟨v7, rfl, ho7, hx7⟩; obtain ⟨R7, d7, rfl, l7⟩ := own_lv ho7; have HX7 := Lib.hid (HX.out.trans hx7); have HL7 := Lib.hid l7; have HM18 := Lib.hid (HL18.out.ext hx7); have HM15 := Lib.hid (HL15.out.ext hx7); clear ho7 hx7 l7) | (go_at_call 39; refine (HHOK.out _ HX7.out _ _ HL7.out).mono ?_; rintro e w9 ⟨rfl, hx9⟩; have HX9 := Lib.hid (HX7.out.trans hx9); have HO18 := Lib.hid (HM18.out.ext hx9); have HO15 := Lib.hid (HM15.out.ext hx9); clear hx9))
                  refine ⟨⟨k + 1, by omega, by go_num, ?_, ?_, HX9.out⟩, by simp [intOf]; omega⟩
                  · rw [HS2.out]
                    exact ⟨R18, d18, rfl, HO18.out⟩
                  · rw [HS2.out]
                    rfl
            · have r1 : ((S.length : Int) == (Bq.length : Int)) = true := by simp; omega
              have r3 : ¬ S.length > Bq.length := by omega
              cases lx with
              | false =>
                have HBT : Hid (bo = false) := by show _ = _; rw [HBF2.out]; simp [q, r]
                clear q r
                have HS2 : Hid (Plain.accC (costF L) (specB L rest losses left need) free (k + 1) = st) := by
                  show _ = _
                  rw [HSU.out, HBT.out]
                  simp
                go_wp2_with (first | (go_at_call 73; first | ((with_reducible refine HC1.out.mono ?_); rintro e w' ⟨rfl, rfl⟩) | ((with_reducible refine HC2.out.mono ?_); rintro e w' ⟨rfl, rfl⟩)) | (go_at_call 63; refine HLX.out.mono ?_; rintro e w6 ⟨rfl, hx6⟩; have HX6 := Lib.hid (HX.out.trans hx6); have HL18' := Lib.hid (HL18.out.ext hx6); have HL15' := Lib.hid (HL15.out.ext hx6); clear hx6))
                refine ⟨⟨k + 1, by omega, by go_num, ?_, ?_, HX6.out⟩, by simp [intOf]; omega⟩
                · rw [HS2.out, HBQ.out]
                  exact ⟨R15, d15, rfl, HL15'.out⟩
                · rw [HS2.out, HFD.out]
              | true =>
                have HBT : Hid (bo = true) := by show _ = _; rw [HBF2.out]; simp [q, r]
                clear q r
                by_cases hnd : need > 0
                · cases ap with
                  | false =>
                    have HS2 : Hid (Plain.accC (costF L) (specB L rest losses left need) free (k + 1) = st) := by
                      show _ = _
                      rw [HSU.out, HSP.out]
                      have : decide (need ≤ 0) = false := decide_eq_false (by omega)
                      simp [this]
                    go_wp2_with (first | (go_at_call 73; first | ((with_reducible refine HC1.out.mono ?_); rintro e w' ⟨rfl, rfl⟩) | ((with_reducible refine HC2.out.mono ?_); rintro e w' ⟨rfl, rfl⟩)) | (go_at_call 63; refine HLX.out.mono ?_; rintro e w6 ⟨rfl, hx6⟩; have HX6 := Lib.hid (HX.out.trans hx6); have HL18' := Lib.hid (HL18.out.ext hx6); have HL15' := Lib.hid (HL15.out.ext hx6); clear hx6) | (go_at_call 33; refine (HMEK.out _ HX6.out _ _ HL18'.out).mono ?_; rintro e w7 ⟨v7, rfl, ho7, hx7⟩; obtain ⟨R7, d7, rfl, l7⟩ := own_lv ho7; have HX7 := Lib.hid (HX6.out.trans hx7); have HL7 := Lib.hid l7; have HM18 := Lib.hid (HL18'.out.ext hx7); have HM15 := Lib.hid (HL15'.out.ext hx7); clear ho7 hx7 l7) | (go_at_call 74; refine (HAPK.out _ HX7.out _ _ HL7.out).mono ?_; rintro e w8 ⟨rfl, hx8⟩; have HX8 := Lib.hid (HX7.out.trans hx8); have HL8 := Lib.hid (HL7.out.ext hx8); have HN18 := Lib.hid (HM18.out.ext hx8); have HN15 := Lib.hid (HM15.out.ext hx8); clear hx8))
                    refine ⟨⟨k + 1, by omega, by go_num, ?_, ?_, HX8.out⟩, by simp [intOf]; omega⟩
                    · rw [HS2.out, HBQ.out]
                      exact ⟨R15, d15, rfl, HN15.out⟩
                    · rw [HS2.out, HFD.out]
                  | true =>
                    cases ho with
                    | false =>
                      have HS2 : Hid (Plain.accC (costF L) (specB L rest losses left need) free (k + 1) = st) := by
                        show _ = _
                        rw [HSU.out, HSP.out]
                        simp
                      go_wp2_with (first | (go_at_call 73; first | ((with_reducible refine HC1.out.mono ?_); rintro e w' ⟨rfl, rfl⟩) | ((with_reducible refine HC2.out.mono ?_); rintro e w' ⟨rfl, rfl⟩)) | (go_at_call 63; refine HLX.out.mono ?_; rintro e w6 ⟨rfl, hx6⟩; have HX6 := Lib.hid (HX.out.trans hx6); have HL18' := Lib.hid (HL18.out.ext hx6); have HL15' := Lib.hid (HL15.out.ext hx6); clear hx6) | (go_at_call 33; refine (HMEK.out _ HX6.out _ _ HL18'.out).mono ?_; rintro e w7 ⟨v7, rfl, ho7, hx7⟩; obtain ⟨R7, d7, rfl, l7⟩ := own_lv ho7; have HX7 := Lib.hid (HX6.out.trans hx7); have HL7 := Lib.hid l7; have HM18 := Lib.hid (HL18'.out.ext hx7); have HM15 := Lib.hid (HL15'.out.ext hx7); clear ho7 hx7 l7) | (go_at_call 74; refine (HAPK.out _ HX7.out _ _ HL7.out).mono ?_; rintro e w8 ⟨rfl, hx8⟩; have HX8 := Lib.hid (HX7.out.trans hx8); have HL8 := Lib.hid (HL7.out.ext hx8); have HN18 := Lib.hid (HM18.out.ext hx8); have HN15 := Lib.hid (HM15.out.ext hx8); clear hx8) | (go_at_call 39; refine (HHOK.out _ HX8.out _ _ HL8.out).mono ?_; rintro e w9 ⟨rfl, hx9⟩; have HX9 := Lib.hid (HX8.out.trans hx9); have HO18 := Lib.hid (HN18.out.ext hx9); have HO15 := Lib.hid (HN15.out.ext hx9); clear hx9))
                      refine ⟨⟨k + 1, by omega, by go_num, ?_, ?_, HX9.out⟩, by simp [intOf]; omega⟩
                      · rw [HS2.out, HBQ.out]
                        exact ⟨R15, d15, rfl, HO15.out⟩
                      · rw [HS2.out, HFD.out]
                    | true =>
                      have HS2 : Hid (Plain.accC (costF L) (specB L rest losses left need) free (k + 1) = some S) := by
                        show _ = _
                        rw [HSU.out, HSP.out, HBT.out]
                        simp
                      go_wp2_with (first | (go_at_call 73; first | ((with_reducible refine HC1.out.mono ?_); rintro e w' ⟨rfl, rfl⟩) | ((with_reducible refine HC2.out.mono ?_); rintro e w' ⟨rfl, rfl⟩)) | (go_at_call 63; refine HLX.out.mono ?_; rintro e w6 ⟨rfl, hx6⟩; have HX6 := Lib.hid (HX.out.trans hx6); have HL18' := Lib.hid (HL18.out.ext hx6); have HL15' := Lib.hid (HL15.out.ext hx6); clear hx6) | (go_at_call 33; refine (HMEK.out _ HX6.out _ _ HL18'.out).mono ?_; rintro e w7 ⟨v7, rfl, ho7, hx7⟩; obtain ⟨R7, d7, rfl, l7⟩ := own_lv ho7; have HX7 := Lib.hid (HX6.out.trans hx7); have HL7 := Lib.hid l7; have HM18 := Lib.hid (HL18'.out.ext hx7); have HM15 := Lib.hid (HL15'.out.ext hx7); clear ho7 hx7 l7) | (go_at_call 74; refine (HAPK.out _ HX7.out _ _ HL7.out).mono ?_; rintro e w8 ⟨rfl, hx8⟩; have HX8 := Lib.hid (HX7.out.trans hx8); have HL8 := Lib.hid (HL7.out.ext hx8); have HN18 := Lib.hid (HM18.out.ext hx8); have HN15 := Lib.hid (HM15.out.ext hx8); clear hx8) | (go_at_call 39; refine (HHOK.out _ HX8.out _ _ HL8.out).mono ?_; rintro e w9 ⟨rfl, hx9⟩; have HX9 := Lib.hid (HX8.out.trans hx9); have HO18 := Lib.hid (HN18.out.ext hx9); have HO15 := Lib.hid (HN15.out.ext hx9); clear hx9))
                      refine ⟨⟨k + 1, by omega, by go_num, ?_, ?_, HX9.out⟩, by simp [intOf]; omega⟩
                      · rw [HS2.out]
                        exact ⟨R18, d18, rfl, HO18.out⟩
                      · rw [HS2.out]
                        rfl
                · cases ho with
                  | false =>
                    have HS2 : Hid (Plain.accC (costF L) (specB L rest losses left need) free (k + 1) = st) := by
                      show _ = _
                      rw [HSU.out, HSP.out]
                      simp
                    go_wp2_with (first | (go_at_call 73; first | ((with_reducible refine HC1.out.mono ?_); rintro e w' ⟨rfl, rfl⟩) | ((with_reducible refine HC2.out.mono ?_); rintro e w' ⟨rfl, rfl⟩)) | (go_at_call 63; refine HLX.out.mono ?_; rintro e w6 ⟨rfl, hx6⟩; have HX6 := Lib.hid (HX.out.trans hx6); have HL18' := Lib.hid (HL18.out.ext hx6); have HL15' := Lib.hid (HL15.out.ext hx6); clear hx6) | (go_at_call 33; refine (HMEK.out _ HX6.out _ _ HL18'.out).mono ?_; rintro e w7 ⟨v7, rfl, ho7, hx7⟩; obtain ⟨R7, d7, rfl, l7⟩ := own_lv ho7; have HX7 := Lib.hid (HX6.out.trans hx7); have HL7 := Lib.hid l7; have HM18 := Lib.hid (HL18'.out.ext hx7); have HM15 := Lib.hid (HL15'.out.ext hx7); clear ho7 hx7 l7) | (go_at_call 39; refine (HHOK.out _ HX7.out _ _ HL7.out).mono ?_; rintro e w9 ⟨rfl, hx9⟩; have HX9 := Lib.hid (HX7.out.trans hx9); have HO18 := Lib.hid (HM18.out.ext hx9); have HO15 := Lib.hid (HM15.out.ext hx9); clear hx9))
                    refine ⟨⟨k + 1, by omega, by go_num, ?_, ?_, HX9.out⟩, by simp [intOf]; omega⟩
                    · rw [HS2.out, HBQ.out]
                      exact ⟨R15, d15, rfl, HO15.out⟩
                    · rw [HS2.out, HFD.out]
                  | true =>
                    have HS2 : Hid (Plain.accC (costF L) (specB L rest losses left need) free (k + 1) = some S) := by
                      show _ = _
                      rw [HSU.out, HSP.out, HBT.out]
                      have : decide (need ≤ 0) = true := decide_eq_true (by omega)
                      simp [this]
                    go_wp2_with (first | (go_at_call 73; first | ((with_reducible refine HC1.out.mono ?_); rintro e w' ⟨rfl, rfl⟩) | ((with_reducible refine HC2.out.mono ?_); rintro e w' ⟨rfl, rfl⟩)) | (go_at_call 63; refine HLX.out.mono ?_; rintro e w6 ⟨rfl, hx6⟩; have HX6 := Lib.hid (HX.out.trans hx6); have HL18' := Lib.hid (HL18.out.ext hx6); have HL15' := Lib.hid (HL15.out.ext hx6); clear hx6) | (go_at_call 33; refine (HMEK.out _ HX6.out _ _ HL18'.out).mono ?_; rintro e w7 ⟨v7, rfl, ho7, hx7⟩; obtain ⟨R7, d7, rfl, l7⟩ := own_lv ho7; have HX7 := Lib.hid (HX6.out.trans hx7); have HL7 := Lib.hid l7; have HM18 := Lib.hid (HL18'.out.ext hx7); have HM15 := Lib.hid (HL15'.out.ext hx7); clear ho7 hx7 l7) | (go_at_call 39; refine (HHOK.out _ HX7.out _ _ HL7.out).mono ?_; rintro e w9 ⟨rfl, hx9⟩; have HX9 := Lib.hid (HX7.out.trans hx9); have HO18 := Lib.hid (HM18.out.ext hx9); have HO15 := Lib.hid (HM15.out.ext hx9); clear hx9))
                    refine ⟨⟨k + 1, by omega, by go_num, ?_, ?_, HX9.out⟩, by simp [intOf]; omega⟩
                    · rw [HS2.out]
                      exact ⟨R18, d18, rfl, HO18.out⟩
                    · rw [HS2.out]
                      rfl
            · have r3 : S.length > Bq.length := r
              have HBT : Hid (bo = false) := by show _ = _; rw [HBF2.out]; simp [q]; omega
              clear q
              have HS2 : Hid (Plain.accC (costF L) (specB L rest losses left need) free (k + 1) = st) := by
                show _ = _
                rw [HSU.out, HBT.out]
                simp
              go_wp2_with (first | (go_at_call 73; first | ((with_reducible refine HC1.out.mono ?_); rintro e w' ⟨rfl, rfl⟩) | ((with_reducible refine HC2.out.mono ?_); rintro e w' ⟨rfl, rfl⟩)))
              refine ⟨⟨k + 1, by omega, by go_num, ?_, ?_, HX.out⟩, by simp [intOf]; omega⟩
              · rw [HS2.out, HBQ.out]
                exact ⟨R15, d15, rfl, HL15.out⟩
              · rw [HS2.out, HFD.out]
          · have q1 : (cS == lc) = false := by simp; omega
            have q3 : cS > lc := q
            have HBT : Hid (bo = false) := by show _ = _; rw [HBF2.out]; simp; omega
            have HS2 : Hid (Plain.accC (costF L) (specB L rest losses left need) free (k + 1) = st) := by
              show _ = _
              rw [HSU.out, HBT.out]
              simp
            go_wp2_with (first | (go_at_call 73; first | ((with_reducible refine HC1.out.mono ?_); rintro e w' ⟨rfl, rfl⟩) | ((with_reducible refine HC2.out.mono ?_); rintro e w' ⟨rfl, rfl⟩)))
            refine ⟨⟨k + 1, by omega, by go_num, ?_, ?_, HX.out⟩, by simp [intOf]; omega⟩
            · rw [HS2.out, HBQ.out]
              exact ⟨R15, d15, rfl, HL15.out⟩
            · rw [HS2.out, HFD.out]
    · have HE : Hid (ST = st) := by
        show _ = _
        rw [HST.out, HSK.out]
        have := HPW.out
        congr 1
        omega
      have HC2 := Lib.hid (HCO.out Wk HX.out R15 d15 Bq hBl HBV.out HL15.out)
      go_wp2_with (first | (go_at_call 61; refine (HPO.out _).mono ?_; rintro e w' ⟨rfl, rfl⟩) | (go_at_call 73; refine HC2.out.mono ?_; rintro e w' ⟨rfl, rfl⟩))
      refine bodyPost_ret (v := .tuple #[.slice R15 Bq.length d15, .int .i64 (costF L Bq), .bool fd]) (by simp [results, Try.results41, go_sem]) rfl ⟨.slice R15 Bq.length d15, ?_, ⟨R15, d15, by rw [HE.out, HBQ.out], by rw [HE.out, HBQ.out]; exact HL15.out⟩, HX.out⟩
      rw [HE.out, HBQ.out, HFD.out]
end Go.Proofs.Ytbhcaniopdgjkaa
