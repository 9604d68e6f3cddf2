import Derived.Test.YtnijfndpefkoeaaRsJ
namespace Go.Proofs.Ytnijfndpefkoeaa
open Go Go.Proofs Go.RowKit
open Ren (planF)
set_option maxHeartbeats 12800000
set_option maxRecDepth 100000
theorem planV_zero {L : List (Int × Int)} {p : Int} (h : (planV L p).2.1 = 0) : faultM L = (0, 0) ∧ ∃ q : Nat, p = (q : Int) ∧ 1 ≤ q ∧ q ≤ 60 ∧ planF (wsF L) q = some (planV L p).1 ∧ (planV L p).2 = (0, 0) := by
  unfold planV at h ⊢
  by_cases hf : faultM L = (0, 0)
  · rw [if_pos hf] at h ⊢
    by_cases hp : 1 ≤ p ∧ p ≤ 60
    · rw [if_pos hp] at h ⊢
      refine ⟨hf, p.toNat, by omega, by omega, by omega, ?_⟩
      cases hR : planF (wsF L) p.toNat with
      | none => rw [hR] at h; simp [planP] at h
      | some ys => exact ⟨rfl, rfl⟩
    · rw [if_neg hp] at h
      simp at h
  · rw [if_neg hf] at h
    exact absurd (faultM_code h) hf
theorem planV_bad {L : List (Int × Int)} {p : Int} (h : (planV L p).2.1 ≠ 0) : (planV L p).1 = [] := by
  unfold planV at h ⊢
  by_cases hf : faultM L = (0, 0)
  · rw [if_pos hf] at h ⊢
    by_cases hp : 1 ≤ p ∧ p ≤ 60
    · rw [if_pos hp] at h ⊢
      cases hR : planF (wsF L) p.toNat with
      | none => rfl
      | some ys => rw [hR] at h; exact absurd rfl h
    · rw [if_neg hp]
  · rw [if_neg hf]
theorem law4_c (A : Option Addr) (L : List (Int × Int)) (c : Nat) (p : Int) (w : World) (hl : L.length ≤ maxLen) (h1 : Prs w A L) :
    Calls Try.prog 4 #[.slice A L.length c, .int .i64 p] w (BRet w true) := by
  have HPL := Lib.hid (fun (W : World) (x : Ext w W) => Plan_c A L c p W hl (h1.ext x))
  have HMD := Lib.hid (fun (q : faultM L = (0, 0)) (b o : Nat) (e : A = some ⟨b, o, none⟩) (W : World) (x : Ext w W) (i : Nat) (hi : i < L.length) => med_at (w := W) (b := b) (o := o) (by rw [← e]; exact h1.ext x) (faultM_ok q).2 hi)
  have HBS := Lib.hid (fun h => h1.base h)
  have HVZ := Lib.hid (fun (q : (planV L p).2.1 = 0) => planV_zero q)
  have HVB := Lib.hid (fun (q : (planV L p).2.1 ≠ 0) => planV_bad q)
  have HWS := Lib.hid (ws_len L)
  have HOK := Lib.hid (fun (q : faultM L = (0, 0)) => ws_ok (faultM_ok q).2)
  obtain ⟨n, hn⟩ : ∃ n, n = L.length := ⟨_, rfl⟩
  have HN60 := Lib.hid (fun (q : faultM L = (0, 0)) => show n ≤ 60 from by rw [hn]; exact (faultM_ok q).1)
  rw [← hn] at HPL HMD HBS HWS ⊢
  obtain ⟨F, hFe⟩ : ∃ F, F = planV L p := ⟨_, rfl⟩
  rw [← hFe] at HPL HVZ HVB
  obtain ⟨K, gc, gi⟩ := F
  unfold LfRet at HPL
  simp only at HPL HVZ HVB
  obtain ⟨kl, hkl⟩ : ∃ kl, kl = K.length := ⟨_, rfl⟩
  have HKL := Lib.hid hkl
  rw [← hkl] at HPL
  clear hl h1 hn hFe hkl
  go_enter Try.func4, Try.ntmps4
  go_upto_region 3 with (go_at_call 11; refine (due_c w).mono ?_; rintro e w0 ⟨rfl, hx0⟩; have HX := Lib.hid hx0; clear hx0)
  go_cut [5, 6] (fun s5 s6 wx => ∃ g A5 c5, s5 = .slice A5 kl c5 ∧ s6 = .pointer (some ⟨g, 0, none⟩) ∧ Sl wx .i64 A5 K ∧ wx.heap[g]? = some (.cells #[.int .i64 gc, .int .i64 gi] 26 (0, 0)) ∧ Ext w0 wx)
  case first =>
    go_wp2_with fail
    refine (HPL.out _ HX.out).mono ?_
    rintro e w2 ⟨A5, c5, rfl, hs, _, hx2⟩
    have HX2 := Lib.hid hx2
    have HS := Lib.hid hs
    have HZ := Lib.hid (heap_alloc_new w2 (.cells #[.int .i64 0, .int .i64 0] 26))
    clear hx2 hs
    simp only [fAgg]
    go_wp2_with (refine wpList_store_row rfl 26 _ _ rfl w2.heap.size #[.int .i64 gc, .int .i64 gi] rfl rfl 26 _ HZ.out sizeF rfl (by kernel_rfl) ?_)
    go_meet
    exact ⟨_, A5, c5, rfl, rfl, HS.out.ext (fvar gc gi).2, (fvar gc gi).1, HX2.out.trans (fvar gc gi).2⟩
  obtain ⟨g6, A5, c5, rfl, rfl, hs, hb, hx⟩ := hcut
  obtain ⟨va, rfl⟩ : ∃ va : World, va = wc := ⟨_, rfl⟩
  have k60 : va.cell? ⟨g6, 0, none⟩ = some (.int .i64 gc) := blk_cell hb 0
  have HS5 := Lib.hid hs
  have HX := Lib.hid (HX.out.trans hx)
  clear hb hs hx
  by_cases hz : gc = 0
  · obtain ⟨hf, q, rfl, hq1, hq2, hpl, _⟩ := HVZ.out hz
    have hpi := Ren.plan_some (HOK.out hf) hq1 hpl
    have HPI := Lib.hid hpi
    have hn60 := HN60.out hf
    have hln : kl = n := by rw [HKL.out, hpi.len, HWS.out]
    have HMA0 := Lib.hid (HMD.out hf)
    obtain ⟨ws, hws⟩ : ∃ ws, ws = wsF L := ⟨_, rfl⟩
    rw [← hws] at HMA0 HPI HWS
    subst hz
    subst hln
    clear hf hpl hpi HVZ HVB HOK HMD HN60 HPL hws
    have e1 : ((kl : Int) != (kl : Int)) = false := by simp
    go_upto_region 9 with (fail)
    go_loopw [7] (fun t7 wx => ∃ i : Nat, t7 = .int .i64 (i : Int) ∧ i ≤ kl ∧ Ext va wx) (fun t7 _ => kl - (intOf t7).toNat)
    case atStart => exact ⟨0, rfl, Nat.zero_le _, Ext.refl va⟩
    case round =>
      obtain ⟨i, rfl, hin, hx⟩ := hrel
      have HXI := Lib.hid hx
      clear hx
      by_cases hlt : i < kl
      · obtain ⟨b, o, hA⟩ := HBS.out (by omega)
        have HMA := Lib.hid (HMA0.out b o hA)
        subst hA
        obtain ⟨x0, x1, fr, to_, m0, m1, ha, hb, ⟨b1, b2, b3, b4⟩, hc⟩ := HMA.out wr (HX.out.trans HXI.out) i hlt
        have HC := Lib.hid hc
        have hwin := HPI.out.win i (by rw [HWS.out]; exact hlt)
        rw [ha, hb] at hwin
        have hcn := HPI.out.cnt (Ren.yr K i)
        rw [HWS.out] at hcn
        have HCN := Lib.hid hcn
        have HWN := Lib.hid hwin
        clear ha hb hc hcn hwin
        go_upto_region 12 with (go_at_call 13; refine (HC.out _).mono ?_; rintro e w2 ⟨rfl, hx2⟩; have HX2 := Lib.hid (HXI.out.trans hx2); clear hx2)
        clear m0 m1 HC
        obtain ⟨b5, o5, hA5, hci⟩ := (HS5.out.ext HX2.out).at_ (i := i) (by rw [← HKL.out]; exact hlt)
        have HCI := Lib.hid (fun (W : World) (x : Ext w2 W) => x.cell hci)
        have HCK := Lib.hid (fun (W : World) (x : Ext w2 W) (k : Nat) (hk : k < kl) => show W.cell? ⟨b5, o5 + k, none⟩ = some (.int .i64 (Ren.yr K k)) from by
          obtain ⟨b', o', e', hc'⟩ := (HS5.out.ext (HX2.out.trans x)).at_ (i := k) (by rw [← HKL.out]; exact hk)
          rw [hA5] at e'
          injection e' with e'
          injection e' with e1 e2
          subst e1
          subst e2
          rw [hc']
          unfold Ren.yr
          rw [List.getElem?_eq_getElem (by rw [← HKL.out]; exact hk)]
          rfl)
        subst hA5
        clear hci HCI
        go_upto_region 14 with (fail)
        go_loopw [10, 11] (fun t10 t11 wx => ∃ k : Nat, t11 = .int .i64 (k : Int) ∧ k ≤ kl ∧ t10 = .int .i64 ((Ren.cnt k (Ren.inY K (Ren.yr K i)) : Nat) : Int) ∧ Ext w2 wx) (fun _ t11 _ => kl - (intOf t11).toNat)
        case atStart => exact ⟨0, rfl, Nat.zero_le _, rfl, Ext.refl w2⟩
        case round =>
          obtain ⟨k, rfl, hkk, rfl, hx⟩ := hrel
          have HXK := Lib.hid hx
          clear hx
          have hcl := Ren.cnt_le k (Ren.inY K (Ren.yr K i))
          have hcs := Ren.cnt_succ k (Ren.inY K (Ren.yr K i))
          have ci := HCK.out wr HXK.out i hlt
          by_cases hltk : k < kl
          · have ck := HCK.out wr HXK.out k hltk
            have hiy : Ren.inY K (Ren.yr K i) k = decide (Ren.yr K k = Ren.yr K i) := rfl
            rw [hiy] at hcs
            obtain ⟨N, hN⟩ : ∃ N, N = Ren.cnt k (Ren.inY K (Ren.yr K i)) := ⟨_, rfl⟩
            rw [← hN] at hcl hcs ⊢
            have HCS := Lib.hid hcs
            obtain ⟨yi, hyi⟩ : ∃ yi, yi = Ren.yr K i := ⟨_, rfl⟩
            obtain ⟨yk, hyk⟩ : ∃ yk, yk = Ren.yr K k := ⟨_, rfl⟩
            have HYI := Lib.hid hyi
            rw [← hyi] at ci HCS
            rw [← hyk] at ck HCS
            clear hN hcs hiy hyi hyk
            have wN : IntKind.i64.wrap ((N : Int) + 1) = (N : Int) + 1 := IntWalk.i64_in _ (by omega)
            have bi : (0 : Int) ≤ (i : Int) ∧ (i : Int) < (kl : Int) := by omega
            have bk : (0 : Int) ≤ (k : Int) ∧ (k : Int) < (kl : Int) := by omega
            by_cases d1 : yk = yi
            · have HE : Hid (Ren.cnt (k + 1) (Ren.inY K (Ren.yr K i)) = N + 1) := Lib.hid (by rw [← HYI.out, HCS.out, decide_eq_true d1]; rfl)
              have f1 : (yk == yi) = true := by simpa using d1
              clear d1 HCS
              go_upto_region 16 with (fail)
              go_quiet (fail)
              go_wp2
              go_roundw
              case rel => exact ⟨k + 1, by go_num, hltk, by rw [HE.out]; go_num, HXK.out.drewN _⟩
              case measure => simp [intOf]; omega
            · have HE : Hid (Ren.cnt (k + 1) (Ren.inY K (Ren.yr K i)) = N) := Lib.hid (by rw [← HYI.out, HCS.out, decide_eq_false d1]; rfl)
              have f1 : (yk == yi) = false := by simpa using d1
              clear d1 HCS
              go_upto_region 16 with (fail)
              go_quiet (fail)
              go_wp2
              go_roundw
              case rel => exact ⟨k + 1, by go_num, hltk, by rw [HE.out], HXK.out.drewN _⟩
              case measure => simp [intOf]; omega
          · have hke : k = kl := by omega
            have hcn := HCN.out
            rw [← hke] at hcn
            have hwn := HWN.out
            obtain ⟨N, hN⟩ : ∃ N, N = Ren.cnt k (Ren.inY K (Ren.yr K i)) := ⟨_, rfl⟩
            rw [← hN] at hcn ⊢
            obtain ⟨yi, hyi⟩ : ∃ yi, yi = Ren.yr K i := ⟨_, rfl⟩
            rw [← hyi] at ci hwn
            have HIN : Hid (inB yi fr to_ = true) := Lib.hid (by unfold inB; rw [decide_eq_true_eq]; exact hwn)
            have f1 : decide ((N : Int) > (q : Int)) = false := decide_eq_false (by omega)
            have f2 : ¬ q < N := by omega
            have bi : (0 : Int) ≤ (i : Int) ∧ (i : Int) < (kl : Int) := by omega
            clear hke hcn hwn hN hyi hcl hcs
            go_wp2_with (go_at_call 16; refine (In_c _ _ _ _).mono ?_; rintro e w' ⟨rfl, rfl⟩; rw [HIN.out])
            go_roundw
            case rel => exact ⟨i + 1, by go_num, hlt, HX2.out.trans HXK.out⟩
            case measure => simp [intOf]; omega
      · go_wp2
        go_ret
        exact ⟨rfl, HX.out.trans HXI.out⟩
  · have hK := HVB.out hz
    have hk0 : kl = 0 := by rw [HKL.out, hK]; rfl
    subst hk0
    have e1 : (gc != 0) = true := by simpa using hz
    clear hz hK HVZ HVB
    go_wp2_with fail
    go_ret
    exact ⟨by first | rfl | simp, HX.out⟩
end Go.Proofs.Ytnijfndpefkoeaa
