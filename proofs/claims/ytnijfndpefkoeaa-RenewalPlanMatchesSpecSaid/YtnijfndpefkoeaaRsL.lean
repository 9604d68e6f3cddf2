import Derived.Test.YtnijfndpefkoeaaRsK
namespace Go.Proofs.Ytnijfndpefkoeaa
open Go Go.Proofs Go.RowKit
open Ren (planF)
set_option maxHeartbeats 12800000
set_option maxRecDepth 100000
def specW (L : List (Int × Int)) (p : Int) : Int × Int := if (faultM L).1 = 0 ∧ inB p 1 60 = false then (4, -2) else faultM L
theorem specW_bad {L : List (Int × Int)} {p : Int} (h : (specW L p).1 ≠ 0) : planV L p = ([], specW L p) := by
  unfold specW at h ⊢
  unfold planV
  by_cases hf : faultM L = (0, 0)
  · rw [if_pos hf]
    rw [hf] at h ⊢
    cases hi : inB p 1 60 with
    | true => rw [if_neg (by rw [hi]; simp)] at h; exact absurd rfl h
    | false =>
      have hn : ¬ (1 ≤ p ∧ p ≤ 60) := by unfold inB at hi; rw [decide_eq_false_iff_not] at hi; exact hi
      rw [if_neg hn, if_pos ⟨rfl, rfl⟩]
  · rw [if_neg hf, if_neg (fun q => hf (faultM_code q.1))]
theorem specW_ok {L : List (Int × Int)} {p : Int} (h : (specW L p).1 = 0) : faultM L = (0, 0) ∧ specW L p = (0, 0) ∧ ∃ q : Nat, p = (q : Int) ∧ 1 ≤ q ∧ q ≤ 60 := by
  unfold specW at h ⊢
  by_cases hc : (faultM L).1 = 0 ∧ inB p 1 60 = false
  · rw [if_pos hc] at h; cases h
  · rw [if_neg hc] at h ⊢
    have hf := faultM_code h
    have hi : inB p 1 60 = true := by
      cases hq : inB p 1 60 with
      | true => rfl
      | false => exact absurd ⟨h, hq⟩ hc
    have hp : 1 ≤ p ∧ p ≤ 60 := by unfold inB at hi; simpa using hi
    exact ⟨hf, hf, p.toNat, by omega, by omega, by omega⟩
def winV (m : Int × Int) : (Int × Int) × (Int × Int) := if okM m = true then (winF m, (0, 0)) else ((0, 0), (4, -1))
theorem Window_v (m : Int × Int) (w : World) : Calls Try.prog 9 #[.agg #[.int .i64 m.1, .int .i64 m.2]] w fun e w' => e = .returned (.tuple #[.int .i64 (winV m).1.1, .int .i64 (winV m).1.2, .agg #[.int .i64 (winV m).2.1, .int .i64 (winV m).2.2]]) ∧ Ext w w' :=
  (Window_c m w).mono fun e w' h => by
    refine ⟨?_, h.1⟩
    have h2 := h.2
    unfold winV
    by_cases q : okM m = true
    · rw [if_pos q] at h2 ⊢; exact h2
    · rw [if_neg q] at h2 ⊢; exact h2
theorem law3_c (m : Int × Int) (A : Option Addr) (L : List (Int × Int)) (c : Nat) (p : Int) (w : World) (hl : L.length ≤ maxLen) (h1 : Prs w A L) :
    Calls Try.prog 3 #[.agg #[.int .i64 m.1, .int .i64 m.2], .slice A L.length c, .int .i64 p] w (BRet w true) := by
  have HWN := Lib.hid (fun W => Window_v m W)
  have HMO := Lib.hid (fun W => MediumOk_c m W)
  have HWO := Lib.hid (fun W q => WindowOf_c m W q)
  have HWV : Hid (winV m = if okM m = true then (winF m, (0, 0)) else ((0, 0), (4, -1))) := Lib.hid rfl
  have HPL := Lib.hid (fun (W : World) (x : Ext w W) => Plan_c A L c p W hl (h1.ext x))
  have HMF := Lib.hid (fun (W : World) (x : Ext w W) => MediaFault_c A L c W hl (h1.ext x))
  have HPD := Lib.hid (fun (W : World) (x : Ext w W) (q : Nat) (hf : faultM L = (0, 0)) (hq : 1 ≤ q) (hq2 : q ≤ 60) => Planned_c A L c q W (faultM_ok hf).1 (h1.ext x) (faultM_ok hf).2 hq hq2)
  have HSB := Lib.hid (fun (q : (specW L p).1 ≠ 0) => specW_bad q)
  have HSO := Lib.hid (fun (q : (specW L p).1 = 0) => specW_ok q)
  have HSW : Hid (specW L p = if (faultM L).1 = 0 ∧ inB p 1 60 = false then (4, -2) else faultM L) := Lib.hid rfl
  obtain ⟨n, hn⟩ : ∃ n, n = L.length := ⟨_, rfl⟩
  rw [← hn] at HPL HMF HPD ⊢
  obtain ⟨F, hFe⟩ : ∃ F, F = planV L p := ⟨_, rfl⟩
  have HFE := Lib.hid hFe
  rw [← hFe] at HPL
  obtain ⟨K, gc, gi⟩ := F
  unfold LfRet at HPL
  simp only at HPL
  obtain ⟨kl, hkl⟩ : ∃ kl, kl = K.length := ⟨_, rfl⟩
  have HKL := Lib.hid hkl
  rw [← hkl] at HPL
  obtain ⟨V, hV⟩ : ∃ V, V = winV m := ⟨_, rfl⟩
  rw [← hV] at HWN HWV
  obtain ⟨⟨va, vb⟩, ec, ei⟩ := V
  obtain ⟨fc, fi, hf⟩ : ∃ fc fi, faultM L = (fc, fi) := ⟨_, _, rfl⟩
  rw [hf] at HMF HSW
  have HF := Lib.hid hf
  obtain ⟨sc, si, hsp⟩ : ∃ sc si, specW L p = (sc, si) := ⟨_, _, rfl⟩
  rw [hsp] at HSW HSB HSO
  obtain ⟨x0, x1⟩ := m
  simp only at HWN HMO HWO HSB HSO
  clear hl h1 hn hFe hkl hV hf hsp
  have HBX := Lib.hid (heap_alloc_new w (.cells #[.int .i64 x0, .int .i64 x1] 23))
  have HXA := Lib.hid ((Ext.refl w).alloc (.cells #[.int .i64 x0, .int .i64 x1] 23))
  go_enter Try.func3, Try.ntmps3
  go_upto_region 1 with (fail)
  obtain ⟨v0, hv0⟩ : ∃ v0, v0 = w.alloc (.cells #[.int .i64 x0, .int .i64 x1] 23) := ⟨_, rfl⟩
  rw [← hv0] at HBX HXA ⊢
  obtain ⟨gm, hgm⟩ : ∃ gm, gm = w.heap.size := ⟨_, rfl⟩
  rw [← hgm] at HBX ⊢
  clear hv0 hgm
  go_cut [7, 8, 9] (fun s7 s8 s9 wx => ∃ g, s7 = .int .i64 va ∧ s8 = .int .i64 vb ∧ s9 = .pointer (some ⟨g, 0, none⟩) ∧ wx.heap[g]? = some (.cells #[.int .i64 ec, .int .i64 ei] 26 (0, 0)) ∧ Ext v0 wx)
  case first =>
    have m0 : v0.cell? ⟨gm, 0, none⟩ = some (.int .i64 x0) := blk_cell HBX.out 0
    have m1 : v0.cell? ⟨gm, 1, none⟩ = some (.int .i64 x1) := blk_cell HBX.out 1
    go_wp2_with fail
    refine (HWN.out _).mono ?_
    rintro e w1 ⟨rfl, hx1⟩
    have HX1 := Lib.hid hx1
    have HZ := Lib.hid (heap_alloc_new w1 (.cells #[.int .i64 0, .int .i64 0] 26))
    clear hx1
    go_wp2_with (refine wpList_store_row rfl 26 _ _ rfl w1.heap.size #[.int .i64 ec, .int .i64 ei] rfl rfl 26 _ HZ.out sizeF rfl (by kernel_rfl) ?_)
    go_meet
    exact ⟨_, rfl, rfl, rfl, (fvar ec ei).1, HX1.out.trans (fvar ec ei).2⟩
  obtain ⟨g9, rfl, rfl, rfl, hb, hx⟩ := hcut
  obtain ⟨v1, rfl⟩ : ∃ v1 : World, v1 = wc := ⟨_, rfl⟩
  have HB9 := Lib.hid hb
  have HBX := Lib.hid (ext_heap hx HBX.out)
  have HX := Lib.hid (HXA.out.trans hx)
  clear hb hx HWN
  go_upto_region 2 with (fail)
  go_cut [10, 11] (fun s5 s6 wx => ∃ g A5 c5, s5 = .slice A5 kl c5 ∧ s6 = .pointer (some ⟨g, 0, none⟩) ∧ Sl wx .i64 A5 K ∧ kl ≤ maxLen ∧ wx.heap[g]? = some (.cells #[.int .i64 gc, .int .i64 gi] 26 (0, 0)) ∧ Ext v1 wx)
  case first =>
    go_wp2_with fail
    refine (HPL.out _ HX.out).mono ?_
    rintro e w2 ⟨A5, c5, rfl, hs, hm, hx2⟩
    have HX2 := Lib.hid hx2
    have HS := Lib.hid hs
    have HM := Lib.hid hm
    have HZ := Lib.hid (heap_alloc_new w2 (.cells #[.int .i64 0, .int .i64 0] 26))
    clear hx2 hs hm
    simp only [fAgg]
    go_wp2_with (refine wpList_store_row rfl 26 _ _ rfl w2.heap.size #[.int .i64 gc, .int .i64 gi] rfl rfl 26 _ HZ.out sizeF rfl (by kernel_rfl) ?_)
    go_meet
    exact ⟨_, A5, c5, rfl, rfl, HS.out.ext (fvar gc gi).2, HM.out, (fvar gc gi).1, HX2.out.trans (fvar gc gi).2⟩
  obtain ⟨g11, A5, c5, rfl, rfl, hs, hkm, hb, hx⟩ := hcut
  obtain ⟨v2, rfl⟩ : ∃ v2 : World, v2 = wc := ⟨_, rfl⟩
  have HB9 := Lib.hid (ext_heap hx HB9.out)
  have HBX := Lib.hid (ext_heap hx HBX.out)
  have HB11 := Lib.hid hb
  have HS5 := Lib.hid hs
  have HKM := Lib.hid hkm
  have HX := Lib.hid (HX.out.trans hx)
  clear hb hs hkm hx HPL
  go_upto_region 5 with (go_at_call 11; refine (due_c v2).mono ?_; rintro e v3 ⟨rfl, hx0⟩; have HX3 := Lib.hid hx0; clear hx0)
  have m0 : v3.cell? ⟨gm, 0, none⟩ = some (.int .i64 x0) := blk_cell (ext_heap HX3.out HBX.out) 0
  have m1 : v3.cell? ⟨gm, 1, none⟩ = some (.int .i64 x1) := blk_cell (ext_heap HX3.out HBX.out) 1
  have HB9 := Lib.hid (ext_heap HX3.out HB9.out)
  have HB11 := Lib.hid (ext_heap HX3.out HB11.out)
  have HS5 := Lib.hid (HS5.out.ext HX3.out)
  have HX := Lib.hid (HX.out.trans HX3.out)
  obtain ⟨ok, hok⟩ : ∃ ok, ok = okM (x0, x1) := ⟨_, rfl⟩
  have HOK := Lib.hid hok
  rw [← hok] at HMO HWV
  clear hok HX3
  go_upto_if 33 with (go_at_call 12; refine (HMO.out _).mono ?_; rintro e v4 ⟨rfl, hx0⟩; have HX4 := Lib.hid hx0; have m0 := hx0.cell m0; have m1 := hx0.cell m1; clear hx0)
  go_cut [12] (fun s12 wx => Ext v4 wx)
  case first =>
    have k90 : v4.cell? ⟨g9, 0, none⟩ = some (.int .i64 ec) := blk_cell (ext_heap HX4.out HB9.out) 0
    have k91 : v4.cell? ⟨g9, 1, none⟩ = some (.int .i64 ei) := blk_cell (ext_heap HX4.out HB9.out) 1
    cases ok with
    | true =>
      have hw := HWV.out
      rw [if_pos rfl] at hw
      have HR := Lib.hid (HWO.out v4 HOK.out.symm)
      obtain ⟨fr, to_, hfr⟩ : ∃ fr to_, winF (x0, x1) = (fr, to_) := ⟨_, _, rfl⟩
      rw [hfr] at HR hw
      injection hw with e1 e2
      injection e1 with e3 e4
      injection e2 with e5 e6
      subst e3 e4 e5 e6
      clear hfr
      go_upto_region 7 with (go_at_call 13; refine HR.out.mono ?_; rintro e v5 ⟨rfl, hx5⟩; have HX5 := Lib.hid hx5; have k90 := hx5.cell k90; clear hx5)
      go_wp2_with fail
      go_meet
      exact HX5.out
    | false =>
      have hw := HWV.out
      rw [if_neg (by decide)] at hw
      injection hw with e1 e2
      injection e1 with e3 e4
      injection e2 with e5 e6
      subst e3 e4 e5 e6
      go_upto_region 9 with (fail)
      go_region_held3 (fun w' => w'.cell? ⟨g9, 0, none⟩ = some (.int .i64 4) ∧ w'.cell? ⟨g9, 1, none⟩ = some (.int .i64 (-1))) (go_keep) ((go_at_call 14; refine (At_c _ _ _).mono ?_; rintro e w' ⟨rfl, rfl⟩))
      all_goals go_wp2_with fail
      all_goals go_meet
      all_goals exact ((Ext.refl v4).drew).alloc _
  have HX5 := Lib.hid (HX4.out.trans hcut)
  obtain ⟨v5, rfl⟩ : ∃ v5 : World, v5 = wc := ⟨_, rfl⟩
  have HB11 := Lib.hid (ext_heap HX5.out HB11.out)
  have HS5 := Lib.hid (HS5.out.ext HX5.out)
  have HX := Lib.hid (HX.out.trans HX5.out)
  clear hcut m0 m1 HX4 HX5 HB9 HBX HMO HWO HWV HOK
  go_upto_region 11 with (fail)
  go_cut [14] (fun s14 wx => ∃ g, s14 = .pointer (some ⟨g, 0, none⟩) ∧ v5.heap.size ≤ g ∧ wx.heap[g]? = some (.cells #[.int .i64 fc, .int .i64 fi] 26 (0, 0)) ∧ Ext v5 wx)
  case first =>
    go_wp2_with fail
    refine (HMF.out _ HX.out).mono ?_
    rintro e w1 ⟨rfl, hx1⟩
    have HX1 := Lib.hid hx1
    have HZ := Lib.hid (heap_alloc_new w1 (.cells #[.int .i64 0, .int .i64 0] 26))
    clear hx1
    simp only [fAgg]
    go_wp2_with (refine wpList_store_row rfl 26 _ _ rfl w1.heap.size #[.int .i64 fc, .int .i64 fi] rfl rfl 26 _ HZ.out sizeF rfl (by kernel_rfl) ?_)
    go_meet
    exact ⟨_, rfl, HX1.out.size, (fvar fc fi).1, HX1.out.trans (fvar fc fi).2⟩
  obtain ⟨g14, rfl, hg14, hb, hx⟩ := hcut
  obtain ⟨v6, rfl⟩ : ∃ v6 : World, v6 = wc := ⟨_, rfl⟩
  have HB14 := Lib.hid hb
  have HX6 := Lib.hid hx
  have HG14 := Lib.hid hg14
  have k140 : v6.cell? ⟨g14, 0, none⟩ = some (.int .i64 fc) := blk_cell hb 0
  clear hb hx hg14 HMF
  obtain ⟨ib, hib⟩ : ∃ ib, inB p 1 60 = ib := ⟨_, rfl⟩
  have HIB := Lib.hid hib
  rw [hib] at HSW
  clear hib
  go_upto_region 12 with (fail)
  go_cut [72] (fun s72 wx => ∃ bt : Bool, s72 = .bool bt ∧ Hid (bt = true ↔ (fc = 0 ∧ ib = false)) ∧ v6 = wx)
  case first =>
    by_cases hz : fc = 0
    · have e1 : (fc == 0) = true := by simpa using hz
      cases ib with
      | true =>
        have HE : Hid ((false : Bool) = true ↔ (fc = 0 ∧ (true : Bool) = false)) := Lib.hid (by simp)
        clear hz
        go_wp2_with (go_at_call 16; refine (In_c _ _ _ _).mono ?_; rintro e w' ⟨rfl, rfl⟩; rw [HIB.out])
        go_meet
        exact ⟨false, by first | rfl | simp, HE, rfl⟩
      | false =>
        have HE : Hid ((true : Bool) = true ↔ (fc = 0 ∧ (false : Bool) = false)) := Lib.hid (by simp [hz])
        clear hz
        go_wp2_with (go_at_call 16; refine (In_c _ _ _ _).mono ?_; rintro e w' ⟨rfl, rfl⟩; rw [HIB.out])
        go_meet
        exact ⟨true, by first | rfl | simp, Lib.hid (by simpa using HE.out), rfl⟩
    · have e1 : (fc == 0) = false := by simpa using hz
      have HE : Hid ((false : Bool) = true ↔ (fc = 0 ∧ ib = false)) := Lib.hid (by simp [hz])
      clear hz
      go_wp2_with fail
      go_meet
      exact ⟨false, by first | rfl | simp, HE, rfl⟩
  obtain ⟨bt, rfl, hbt, rfl⟩ := hcut
  clear k140
  go_upto_if 72 with (fail)
  go_cut [73] (fun s73 wx => wx.heap[g14]? = some (.cells #[.int .i64 sc, .int .i64 si] 26 (0, 0)) ∧ Ext v5 wx)
  case first =>
    cases bt with
    | true =>
      have hw := HSW.out
      rw [if_pos (hbt.out.1 rfl)] at hw
      injection hw with e1 e2
      subst e1 e2
      have HBN := Lib.hid (ext_heap ((Ext.refl v6).alloc (.cells #[.int .i64 4, .int .i64 (-2)] 26)) HB14.out)
      go_wp2_with (first | (go_at_call 14; refine (At_c _ _ _).mono ?_; rintro e w' ⟨rfl, rfl⟩) | refine wpList_store_row rfl 26 _ _ rfl g14 #[.int .i64 4, .int .i64 (-2)] rfl rfl 26 _ HBN.out sizeF rfl (by kernel_rfl) ?_)
      go_meet
      exact ⟨setRow_heap _ _ _ _ _ _ HBN.out, (HX6.out.alloc _).setRow HG14.out _⟩
    | false =>
      have hw := HSW.out
      rw [if_neg (fun q => by have := hbt.out.2 q; cases this)] at hw
      injection hw with e1 e2
      subst e1 e2
      go_wp2_with fail
      go_meet
      exact ⟨HB14.out, HX6.out⟩
  obtain ⟨hb, hx⟩ := hcut
  obtain ⟨v7, rfl⟩ : ∃ v7 : World, v7 = wc := ⟨_, rfl⟩
  have HB14 := Lib.hid hb
  have HX7 := Lib.hid hx
  have k140 : v7.cell? ⟨g14, 0, none⟩ = some (.int .i64 sc) := blk_cell hb 0
  clear hb hx hbt HSW HX6
  go_upto_if 76 with (fail)
  go_cut [15] (fun s15 wx => ∃ A15 c15, s15 = .slice A15 kl c15 ∧ Sl wx .i64 A15 K ∧ wx.heap[g14]? = some (.cells #[.int .i64 gc, .int .i64 gi] 26 (0, 0)) ∧ Ext v5 wx)
  case first =>
    by_cases hz : sc = 0
    · obtain ⟨hf, hs00, q, hp, q1, q2⟩ := HSO.out hz
      injection hs00 with e1 e2
      subst hp e1 e2
      have hpv := planV_fault hf q1 q2
      have HPV := Lib.hid hpv
      have HR := Lib.hid (HPD.out v7 (HX.out.trans HX7.out) q hf q1 q2)
      clear hz hf hpv
      go_upto_region 17 with (go_at_call 17; refine HR.out.mono ?_; rintro e v8 ⟨A16, c16, ys, ok, rfl, hs16, hl16, hpf, hx8⟩; have HS16 := Lib.hid hs16; have HPF := Lib.hid hpf; have HX8 := Lib.hid hx8; clear hs16 hl16 hpf hx8)
      have HB14 := Lib.hid (ext_heap HX8.out HB14.out)
      cases ok with
      | true =>
        have hpf := HPF.out
        rw [if_pos rfl] at hpf
        have hfe := HFE.out
        rw [HPV.out, hpf] at hfe
        injection hfe with e1 e2
        injection e2 with e3 e4
        subst e1 e3 e4
        have hkk := HKL.out
        subst hkk
        clear hpf
        go_wp2_with fail
        go_meet
        exact ⟨A16, c16, rfl, HS16.out, HB14.out, HX7.out.trans HX8.out⟩
      | false =>
        have hpf := HPF.out
        rw [if_neg (by decide)] at hpf
        have hfe := HFE.out
        rw [HPV.out, hpf] at hfe
        injection hfe with e1 e2
        injection e2 with e3 e4
        subst e1 e3 e4
        have hkk : kl = 0 := HKL.out
        subst hkk
        clear hpf
        have HBN := Lib.hid (ext_heap ((Ext.refl v8).alloc (.cells #[.int .i64 12, .int .i64 (-1)] 26)) HB14.out)
        go_wp2_with (first | (go_at_call 14; refine (At_c _ _ _).mono ?_; rintro e w' ⟨rfl, rfl⟩) | refine wpList_store_row rfl 26 _ _ rfl g14 #[.int .i64 12, .int .i64 (-1)] rfl rfl 26 _ HBN.out sizeF rfl (by kernel_rfl) ?_)
        go_meet
        exact ⟨none, 0, rfl, SlC.nil _ _, setRow_heap _ _ _ _ _ _ HBN.out, ((HX7.out.trans HX8.out).alloc _).setRow HG14.out _⟩
    · have hfe := HFE.out
      rw [HSB.out hz] at hfe
      injection hfe with e1 e2
      injection e2 with e3 e4
      subst e1 e3 e4
      have hkk : kl = 0 := HKL.out
      subst hkk
      have e1 : (gc == 0) = false := by simpa using hz
      clear hz
      go_wp2_with fail
      go_meet
      exact ⟨none, 0, rfl, SlC.nil _ _, HB14.out, HX7.out⟩
  obtain ⟨A15, c15, rfl, hs15, hb, hx⟩ := hcut
  obtain ⟨v9, rfl⟩ : ∃ v9 : World, v9 = wc := ⟨_, rfl⟩
  have HIN := Lib.hid (Ints_c A5 A15 K K c5 c15 v9 (by rw [← HKL.out]; exact HKM.out) (by rw [← HKL.out]; exact HKM.out) (HS5.out.ext hx) hs15)
  rw [← HKL.out] at HIN
  have n0 : v9.cell? ⟨g14, 0, none⟩ = some (.int .i64 gc) := blk_cell hb 0
  have n1 : v9.cell? ⟨g14, 1, none⟩ = some (.int .i64 gi) := blk_cell hb 1
  have n2 : v9.cell? ⟨g11, 0, none⟩ = some (.int .i64 gc) := blk_cell (ext_heap hx HB11.out) 0
  have n3 : v9.cell? ⟨g11, 1, none⟩ = some (.int .i64 gi) := blk_cell (ext_heap hx HB11.out) 1
  have HX9 := Lib.hid (HX.out.trans hx)
  clear hs15 hb hx k140 HSB HSO HFE HPD
  go_wp2_with fail
  refine HIN.out.mono ?_
  rintro e w3 ⟨rfl, j, rfl⟩
  go_wp2_with fail
  go_ret
  exact ⟨by first | rfl | simp, HX9.out.drewN j⟩
end Go.Proofs.Ytnijfndpefkoeaa
