import Derived.Test.YtbhcaniopdgjkaaMg29
namespace Go.Proofs.Ytbhcaniopdgjkaa
open Go Go.Proofs Go.RowKit
open Plain (SiteD)
set_option maxHeartbeats 1000000
set_option maxRecDepth 100000
/-- The cheapest choice among candidates that has the closure's property. -/
theorem cheapest75_c (b1 b2 b3 : Nat) (A C : Option Addr) (L : List SiteD) (cand : List Int) (c1 c2 : Nat) (prop : List Int → Bool) (w : World) (hn : cand.length ≤ 10) (hb : ∀ i, 0 ≤ costAt L i ∧ costAt L i ≤ 1000000) (h1 : Sites w A L) (h2 : Sl w .i64 C cand) (hv : ∀ i ∈ cand, 0 ≤ i ∧ i < L.length)
    (hp : ∀ w1, Ext w w1 → ∀ R c ch, ch.Sublist cand → ch.length ≤ c → Sl w1 .i64 R ch → Calls Try.prog 75 #[.slice R ch.length c, .pointer (some ⟨b1, 0, none⟩), .pointer (some ⟨b2, 0, none⟩), .pointer (some ⟨b3, 0, none⟩)] w1 (BRet w1 (prop ch))) :
    Calls Try.prog 70 #[.slice A L.length c1, .slice C cand.length c2, .func (.func 75) #[] #[.pointer (some ⟨b1, 0, none⟩), .pointer (some ⟨b2, 0, none⟩), .pointer (some ⟨b3, 0, none⟩)]] w fun e w' => ∃ v, e = .returned (.tuple #[v, .int .i64 (costF L ((Plain.accC (costF L) prop cand (2 ^ cand.length)).getD [])), .bool (Plain.accC (costF L) prop cand (2 ^ cand.length)).isSome]) ∧ LB w' w.heap.size v ((Plain.accC (costF L) prop cand (2 ^ cand.length)).getD []) ∧ Ext w w' := by
  obtain ⟨i0, hi', hz0, hz1, hz2⟩ := info_parts info3
  have HI := Lib.hid hi'
  have HZ0 := Lib.hid hz0
  have HZ1 := Lib.hid hz1
  have HZ2 := Lib.hid hz2
  have HP := Lib.hid hp
  have HB := Lib.hid hb
  have HV := Lib.hid hv
  have H1 := Lib.hid h1
  have H2 := Lib.hid h2
  obtain ⟨n, hnn⟩ : ∃ n, n = cand.length := ⟨_, rfl⟩
  obtain ⟨ST, hST⟩ : ∃ ST, ST = Plain.accC (costF L) prop cand (2 ^ cand.length) := ⟨_, rfl⟩
  rw [← hST]
  have HST := Lib.hid hST
  rw [← hnn] at hn HST ⊢
  have HN := Lib.hid hnn
  have hsw := shl_wrap (n := n) (by omega)
  have hpw := powI_le (n := n) (by omega)
  have HPW : Hid (powI n = ((2 ^ n : Nat) : Int)) := Lib.hid rfl
  generalize powI n = PW at *
  obtain ⟨hp1, hp2⟩ := hpw
  clear hi' hz0 hz1 hz2 hp hb hv h1 h2 hnn hST
  go_enter Try.func70, Try.ntmps70
  go_wp2
  go_loopw [9, 10, 11, 21] (fun v9 v10 v11 v21 wr => ∃ k : Nat, (k : Int) ≤ PW ∧ v21 = .int .i64 k ∧ BestV w wr L (Plain.accC (costF L) prop cand k) v9 v10 v11) (fun _ _ _ v21 _ => PW.toNat - (intOf v21).toNat)
  case atStart => exact ⟨0, by omega, rfl, best0 w L⟩
  case round =>
    obtain ⟨k, hk, rfl, hbv⟩ := hrel
    have HSU := Lib.hid (Plain.accC_succ (costF L) prop cand k)
    obtain ⟨st, hst⟩ : ∃ st, st = Plain.accC (costF L) prop cand k := ⟨_, rfl⟩
    rw [← hst] at hbv HSU
    have HSK := Lib.hid hst
    clear hst
    obtain ⟨⟨R9, d9, rfl, l9, b9⟩, rfl, rfl, hx⟩ := hbv
    have HB9 := Lib.hid b9
    clear b9
    have HBF := Lib.hid (fun c => better_form (costF L) c st)
    obtain ⟨fd, hfd⟩ : ∃ fd, st.isSome = fd := ⟨_, rfl⟩
    obtain ⟨Bq, hBq⟩ : ∃ Bq, st.getD [] = Bq := ⟨_, rfl⟩
    obtain ⟨lc, hlc⟩ : ∃ lc, costF L Bq = lc := ⟨_, rfl⟩
    rw [hfd, hBq, hlc] at HBF
    rw [hfd, hBq, hlc]
    rw [hBq] at l9
    have hBl : Bq.length ≤ 10 := by
      rw [← hBq]
      cases hst : st with
      | none => simp
      | some b =>
        have := (Plain.accC_mem (HSK.out.symm.trans hst)).1.length_le
        simp only [Option.getD_some]
        rw [← HN.out] at this
        omega
    have HFD := Lib.hid hfd
    have HBQ := Lib.hid hBq
    have HLC := Lib.hid hlc
    have HL9 := Lib.hid l9
    have HX := Lib.hid hx
    clear l9 hx hfd hBq hlc
    by_cases hkp : (k : Int) < PW
    · obtain ⟨Wk, rfl⟩ : ∃ Wk, Wk = wr := ⟨_, rfl⟩
      go_wp2
      go_loopw [13, 14, 26] (fun v13 v14 v26 wr => ∃ j : Nat, j ≤ n ∧ v26 = .int .i64 j ∧ ∃ S, v14 = .int .i64 (costF L S) ∧ SubI Wk wr cand k j (k / 2 ^ j) v13 S) (fun _ _ v26 _ => n - (intOf v26).toNat)
      case atStart => exact ⟨0, Nat.zero_le _, rfl, [], rfl, by rw [Nat.pow_zero, Nat.div_one]; exact sub0 Wk cand k⟩
      case round =>
        obtain ⟨j, hj, rfl, S, rfl, hsub⟩ := hrel
        have HS := Lib.hid hsub
        obtain ⟨VA, vc, rfl, hvc, _, _, l13⟩ := own_sl hsub.f.own
        have hlw := hsub.f.x.size
        have hSl := hsub.len
        have HL13 := Lib.hid l13
        clear hsub l13
        have hcb := cost_bound HB.out S
        obtain ⟨mk, hmk⟩ : ∃ mk, mk = k / 2 ^ j := ⟨_, rfl⟩
        by_cases hjn : j < n
        · have hkl : j < cand.length := by rw [← HN.out]; exact hjn
          obtain ⟨b, o, x, hC, hx, ha⟩ := H2.out.at2 hkl
          subst hC
          obtain ⟨x0, x1⟩ := HV.out x (List.mem_of_getElem? hx.out)
          obtain ⟨X, rfl⟩ : ∃ X : Nat, x = X := ⟨x.toNat, by omega⟩
          have hXL : X < L.length := by omega
          obtain ⟨s, hs⟩ : ∃ s, L[X]? = some s := ⟨_, List.getElem?_eq_getElem hXL⟩
          obtain ⟨b2, o2, hA, hsite⟩ := H1.out X s hs
          subst hA
          have hxw := HX.out.trans HS.out.f.x
          have ha' := hxw.cell ha
          have z0 := hsite.cost
          have z1 := hxw.cell hsite.cost
          have hcs : costAt L (X : Int) = s.cost := by unfold costAt; rw [Int.toNat_natCast, hs]; rfl
          have hc2 := HB.out (X : Int)
          rw [hcs] at hc2
          have HCS : Hid (costF L (S ++ [(X : Int)]) = costF L S + s.cost) := by show _ = _; rw [cost_append, ← hcs]; simp [costF]
          have hmlt : mk < 4611686018427387904 := by
            have := Nat.div_le_self k (2 ^ j)
            omega
          have hq1 := shr_nat k j
          have hb1 := bits_one mk hmlt
          have HDN := Lib.hid (div_next k j)
          rw [← hmk] at HS hq1 HDN
          have HCE := Lib.hid (show costF L S = costF L S from rfl)
          generalize hcS : costF L S = cS at hcb HCS ⊢
          rw [hcS] at HCE
          have HCE2 := Lib.hid hcS
          clear hcS HCE
          obtain ⟨s0, s1⟩ := hcb
          obtain ⟨t0, t1⟩ := hc2
          have s2 : cS ≤ 10000000 := by omega
          have hSl2 : S.length ≤ 10 := by omega
          clear hkl hsite hs hcs hxw ha hmk hmlt s1
          by_cases hbit : mk % 2 = 1
          · rw [hbit] at hb1
            have HAD := Lib.hid (fun w3 v3 hf => HS.out.add (w3 := w3) (v3 := v3) hx.out hbit hf)
            clear hbit
            go_wp2_with (at_builtin; refine wpList_append_sl rfl _ _ 23 rfl Wk.heap.size 3 i0 (.int .i64 0) 1 8 Try.underlying23 HI.out HZ0.out HZ1.out HZ2.out rfl (by decide) _ S.length (S.map (Value.int .i64)) rfl (HS.out.f.own.alloc _) (some ⟨wr.heap.size, 0, none⟩) 1 1 [.int .i64 (X : Int)] rfl (slc_new wr [.int .i64 (X : Int)] 3) rfl (by simp [Value.oneCell']) (by unfold maxLen; omega) (by omega) (by simp; omega) ?_; intro v3 w3 ho3 hg3 _h3; have hf3 := HS.out.f.add ho3 hg3; have HN3 := Lib.hid (HAD.out _ _ hf3); have z1' := (HX.out.trans hf3.x).cell z0; obtain ⟨A3, c3', rfl, _, _, _, _⟩ := own_sl ho3; clear ho3 hg3 _h3 hf3)
            refine ⟨⟨j + 1, by omega, by go_num, S ++ [(X : Int)], by rw [HCS.out], by rw [← HDN.out]; exact HN3.out⟩, by simp [intOf]; omega⟩
          · have hbit0 : mk % 2 = 0 := by omega
            rw [hbit0] at hb1
            have HAD := Lib.hid (HS.out.skip hx.out hbit)
            clear hbit hbit0
            go_wp2
            refine ⟨⟨j + 1, by omega, by go_num, S, by rw [HCE2.out], by rw [← HDN.out]; exact HAD.out⟩, by simp [intOf]; omega⟩
        · have hjn2 : j = n := by omega
          have HSE : Hid (S = Plain.subsetM cand k) := by
            show _ = _
            have := HS.out.eq
            rw [List.drop_of_length_le (by rw [← HN.out]; omega)] at this
            simpa [Plain.subsetM] using this
          have HSB : Hid (S.Sublist cand) := by
            show List.Sublist _ _
            rw [HSE.out]; exact Plain.subsetM_sub cand k
          rw [← HSE.out] at HSU
          have HXW := Lib.hid (HX.out.trans HS.out.f.x)
          have HL9' := Lib.hid (HL9.out.ext HS.out.f.x)
          clear hjn2 hmk HS HX HL9
          obtain ⟨Wj, rfl⟩ : ∃ Wj, Wj = wr := ⟨_, rfl⟩
          have HBF2 := Lib.hid (HBF.out S)
          obtain ⟨cS, hcS⟩ : ∃ cS, costF L S = cS := ⟨_, rfl⟩
          rw [hcS] at HBF2 hcb ⊢
          have HCE := Lib.hid hcS
          clear hcS HBF
          go_upto_region 15 with (fail)
          go_cut [17] (fun s17 wx => s17 = .bool (Plain.betterO (costF L) S st) ∧ Wj = wx)
          case first =>
            have HCM := Lib.hid (Compare_c VA R9 S Bq vc d9 Wj (by unfold maxLen; omega) (by unfold maxLen; omega) HL13.out HL9'.out)
            generalize Plain.lexB S Bq = lx at HBF2 HCM
            clear hcb HSU HSE HSB HXW HL9' HL13
            cases fd with
            | false =>
              go_wp2_with fail
              go_meet
              exact ⟨by rw [HBF2.out]; simp, rfl⟩
            | true =>
              rcases Int.lt_trichotomy cS lc with q | q | q
              · go_wp2_with fail
                go_meet
                exact ⟨by rw [HBF2.out]; simp [q], rfl⟩
              · have q1 : (cS == lc) = true := by simpa using q
                have q2 : ¬ cS < lc := by omega
                rcases Nat.lt_trichotomy S.length Bq.length with r | r | r
                · have HB2 : Hid (Plain.betterO (costF L) S st = true) := by show _ = _; rw [HBF2.out]; simp [q, r]
                  clear q
                  go_wp2_with fail
                  go_meet
                  exact ⟨by rw [HB2.out], rfl⟩
                · have r1 : ((S.length : Int) == (Bq.length : Int)) = true := by simp; omega
                  have r2 : ¬ S.length < Bq.length := by omega
                  have HB2 : Hid (Plain.betterO (costF L) S st = lx) := by show _ = _; rw [HBF2.out]; simp [q, r]
                  clear q r
                  go_wp2_with (go_at_call 90; refine HCM.out.mono ?_; rintro e w5 ⟨rr, rfl, hrr, rfl⟩; have HRR := Lib.hid hrr; clear hrr)
                  go_meet
                  exact ⟨by rw [HB2.out, ← HRR.out], rfl⟩
                · have r1 : ((S.length : Int) == (Bq.length : Int)) = false := by simp; omega
                  have r2 : ¬ S.length < Bq.length := by omega
                  have HB2 : Hid (Plain.betterO (costF L) S st = false) := by show _ = _; rw [HBF2.out]; simp [q, r2]; omega
                  clear q
                  go_wp2_with fail
                  go_meet
                  exact ⟨by rw [HB2.out], rfl⟩
              · have q1 : (cS == lc) = false := by simp; omega
                have q2 : ¬ cS < lc := by omega
                have HB2 : Hid (Plain.betterO (costF L) S st = false) := by show _ = _; rw [HBF2.out]; simp [q2]; omega
                go_wp2_with fail
                go_meet
                exact ⟨by rw [HB2.out], rfl⟩
          case rest =>
            obtain ⟨rfl, rfl⟩ := hcut
            generalize Plain.betterO (costF L) S st = bo at HSU ⊢
            have HPC := Lib.hid (HP.out Wj HXW.out VA vc S HSB.out hvc HL13.out)
            clear HBF2 HSB HSE
            cases bo with
            | false =>
              have HS2 : Hid (Plain.accC (costF L) prop cand (k + 1) = st) := by show _ = _; rw [HSU.out]; simp
              go_wp2
              refine ⟨⟨k + 1, by omega, by go_num, ?_⟩, by simp [intOf]; omega⟩
              rw [HS2.out]
              exact ⟨⟨R9, d9, by rw [HBQ.out], by rw [HBQ.out]; exact HL9'.out, HB9.out⟩, by rw [HBQ.out, HLC.out], by rw [HFD.out], HXW.out⟩
            | true =>
              generalize prop S = ps at HPC HSU
              cases ps with
              | false =>
                have HS2 : Hid (Plain.accC (costF L) prop cand (k + 1) = st) := by show _ = _; rw [HSU.out]; simp
                go_wp2_with (go_at_call 75; refine HPC.out.mono ?_; rintro e w5 ⟨rfl, hx5⟩; have HX5 := Lib.hid hx5; clear hx5)
                refine ⟨⟨k + 1, by omega, by go_num, ?_⟩, by simp [intOf]; omega⟩
                rw [HS2.out]
                exact ⟨⟨R9, d9, by rw [HBQ.out], by rw [HBQ.out]; exact HL9'.out.ext HX5.out, HB9.out⟩, by rw [HBQ.out, HLC.out], by rw [HFD.out], HXW.out.trans HX5.out⟩
              | true =>
                have HS2 : Hid (Plain.accC (costF L) prop cand (k + 1) = some S) := by show _ = _; rw [HSU.out]; simp
                go_wp2_with (go_at_call 75; refine HPC.out.mono ?_; rintro e w5 ⟨rfl, hx5⟩; have hmk := make_run w5 S.length (by omega); obtain ⟨w6, hcp, hx6, l6⟩ := copy_new w5 3 S.length VA vc S rfl (HL13.out.ext hx5) (by omega); have HS5 := Lib.hid (HXW.out.trans hx5).size; have HX5 := Lib.hid (hx5.trans hx6); have HL6 := Lib.hid l6; clear hx5 hx6 l6)
                refine ⟨⟨k + 1, by omega, by go_num, ?_⟩, by simp [intOf]; omega⟩
                rw [HS2.out]
                exact ⟨⟨_, _, rfl, HL6.out, fun a ha => by cases ha; exact HS5.out⟩, by rw [Option.getD_some, HCE.out], rfl, HXW.out.trans HX5.out⟩
    · have HE : Hid (ST = st) := by
        show _ = _
        rw [HST.out, HSK.out]
        have := HPW.out
        congr 1
        omega
      go_wp2
      refine bodyPost_ret (v := .tuple #[.slice R9 Bq.length d9, .int .i64 lc, .bool fd]) (by simp [results, Try.results70, go_sem]) rfl ⟨.slice R9 Bq.length d9, ?_, ⟨R9, d9, by rw [HE.out, HBQ.out], by rw [HE.out, HBQ.out]; exact HL9.out, HB9.out⟩, HX.out⟩
      rw [HE.out, HBQ.out, HLC.out, HFD.out]
end Go.Proofs.Ytbhcaniopdgjkaa
