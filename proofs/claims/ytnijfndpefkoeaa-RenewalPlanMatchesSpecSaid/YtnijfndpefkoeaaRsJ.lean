import Derived.Test.YtnijfndpefkoeaaRsI
namespace Go.Proofs.Ytnijfndpefkoeaa
open Go Go.Proofs Go.RowKit
open Ren (planF)
set_option maxHeartbeats 12800000
set_option maxRecDepth 100000
theorem planV_fault {L : List (Int × Int)} {p : Nat} (hf : faultM L = (0, 0)) (hp : 1 ≤ p) (hp2 : p ≤ 60) : planV L (p : Int) = planP (planF (wsF L) p) := by
  unfold planV
  rw [if_pos hf, if_pos (by omega), Int.toNat_natCast]
theorem law5_c (A : Option Addr) (L : List (Int × Int)) (c : Nat) (p : Int) (w : World) (hl : L.length ≤ maxLen) (h1 : Prs w A L) :
    Calls Try.prog 5 #[.slice A L.length c, .int .i64 p] w (BRet w true) := by
  have HMF := Lib.hid (fun (W : World) (x : Ext w W) => MediaFault_c A L c W hl (h1.ext x))
  have HFC := Lib.hid (fun (q : (faultM L).1 = 0) => faultM_code q)
  have HOK := Lib.hid (fun (q : faultM L = (0, 0)) => faultM_ok q)
  have HPL := Lib.hid (fun (W : World) (x : Ext w W) => Plan_c A L c p W hl (h1.ext x))
  have HPO := Lib.hid (fun (W : World) (x : Ext w W) (p : Nat) (q : faultM L = (0, 0)) (hp : p ≤ 60) => Possible_c A L c p W (faultM_ok q).1 (h1.ext x) (faultM_ok q).2 hp)
  obtain ⟨n, hn⟩ : ∃ n, n = L.length := ⟨_, rfl⟩
  rw [← hn] at HMF HPL HPO ⊢
  obtain ⟨fc, fi, hf⟩ : ∃ fc fi, faultM L = (fc, fi) := ⟨_, _, rfl⟩
  rw [hf] at HMF HFC
  have HF := Lib.hid hf
  clear hl h1 hn hf
  go_enter Try.func5, Try.ntmps5
  go_upto_region 3 with (go_at_call 11; refine (due_c w).mono ?_; rintro e w0 ⟨rfl, hx0⟩; have HX := Lib.hid hx0; clear hx0)
  have hfld : ∀ (a b : Int) (W : World), (Instr.field 26 (.agg #[.int .i64 a, .int .i64 b]) 0).run Try.prog W = .ok (.int .i64 a) W := fun a b W => by kernel_rfl
  have HFLD := Lib.hid hfld
  have hfl := hfld fc fi
  clear hfld
  cases hin : inB p 1 60 with
  | false =>
    have HIN := Lib.hid hin
    clear hin
    by_cases hz : fc = 0
    · have e1 : (fc != 0) = false := by simpa using hz
      clear hz
      go_wp2_with fail
      refine (HMF.out _ HX.out).mono ?_
      rintro e w1 ⟨rfl, hx1⟩
      have HX1 := Lib.hid (HX.out.trans hx1)
      clear hx1
      simp only [fAgg]
      go_wp2_with (go_at_call 16; refine (In_c _ _ _ _).mono ?_; rintro e w' ⟨rfl, rfl⟩; rw [HIN.out])
      go_ret
      exact ⟨by first | rfl | simp, HX1.out⟩
    · have e1 : (fc != 0) = true := by simpa using hz
      clear hz
      go_wp2_with fail
      refine (HMF.out _ HX.out).mono ?_
      rintro e w1 ⟨rfl, hx1⟩
      have HX1 := Lib.hid (HX.out.trans hx1)
      clear hx1
      simp only [fAgg]
      go_wp2_with fail
      go_ret
      exact ⟨by first | rfl | simp, HX1.out⟩
  | true =>
    have HIN := Lib.hid hin
    by_cases hz : fc = 0
    · have hff : (fc, fi) = ((0 : Int), (0 : Int)) := HFC.out hz
      have hok := HOK.out (by rw [HF.out, hff])
      have hpr : 1 ≤ p ∧ p ≤ 60 := by unfold inB at hin; simpa using hin
      obtain ⟨q, hq⟩ : ∃ q : Nat, p = (q : Int) := ⟨p.toNat, by omega⟩
      subst hq
      have hq1 : 1 ≤ q := by omega
      have hq2 : q ≤ 60 := by omega
      have hpv := planV_fault (L := L) (by rw [HF.out, hff]) hq1 hq2
      rw [hpv] at HPL
      have HPP := Lib.hid (plan_poss hok.2 hq1)
      have HPO2 := Lib.hid (fun (W : World) (x : Ext w W) => HPO.out W x q (by rw [HF.out, hff]) hq2)
      subst hz
      clear hff hok hpr hq1 hq2 hpv HPO HFC HOK HF hin
      obtain ⟨R, hR⟩ : ∃ R, R = planF (wsF L) q := ⟨_, rfl⟩
      rw [← hR] at HPL HPP
      clear hR
      go_upto_region 5 with (first | (go_at_call 15; refine (HMF.out _ HX.out).mono ?_; rintro e w1 ⟨rfl, hx1⟩; have HX1 := Lib.hid (HX.out.trans hx1); clear hx1; simp only [fAgg]) | (go_at_call 16; refine (In_c _ _ _ _).mono ?_; rintro e w' ⟨rfl, rfl⟩; rw [HIN.out]))
      clear HMF hfl HFLD
      obtain ⟨F, hFe⟩ : ∃ F, F = planP R := ⟨_, rfl⟩
      have HFE := Lib.hid hFe
      rw [← hFe] at HPL
      obtain ⟨K, gc, gi⟩ := F
      unfold LfRet at HPL
      simp only at HPL
      clear hFe
      go_cut [5, 6] (fun s5 s6 wx => ∃ g, s6 = .pointer (some ⟨g, 0, none⟩) ∧ wx.heap[g]? = some (.cells #[.int .i64 gc, .int .i64 gi] 26 (0, 0)) ∧ Ext w1 wx)
      case first =>
        go_wp2_with fail
        refine (HPL.out _ HX1.out).mono ?_
        rintro e w2 ⟨A5, c5, rfl, _, _, hx2⟩
        have HX2 := Lib.hid hx2
        have HZ := Lib.hid (heap_alloc_new w2 (.cells #[.int .i64 0, .int .i64 0] 26))
        clear hx2
        simp only [fAgg]
        go_wp2_with (refine wpList_store_row rfl 26 _ _ rfl w2.heap.size #[.int .i64 gc, .int .i64 gi] rfl rfl 26 _ HZ.out sizeF rfl (by kernel_rfl) ?_)
        go_meet
        exact ⟨_, rfl, (fvar gc gi).1, HX2.out.trans (fvar gc gi).2⟩
      obtain ⟨g6, rfl, hb, hx⟩ := hcut
      obtain ⟨va, rfl⟩ : ∃ va : World, va = wc := ⟨_, rfl⟩
      have HB := Lib.hid hb
      have HXA := Lib.hid (HX1.out.trans hx)
      clear hb hx
      cases hb : R.isSome with
      | true =>
        rw [hb] at HPP
        have hgc : gc = 0 := by
          cases R with
          | none => cases hb
          | some ys => have := HFE.out; injection this with _ h2; injection h2
        subst hgc
        clear hb HPL HFE
        go_upto_region 7 with (go_at_call 19; refine (HPO2.out _ HXA.out).mono ?_; rintro e w3 ⟨hx3, b, rfl, hbb⟩; obtain rfl : b = true := hbb.2 (HPP.out.1 rfl); have HX3 := Lib.hid (HXA.out.trans hx3); have k6 : w3.cell? ⟨g6, 0, none⟩ = some (.int .i64 0) := blk_cell (ext_heap hx3 HB.out) 0; clear hbb hx3)
        go_wp2_with fail
        go_ret
        exact ⟨by first | rfl | simp, HX3.out⟩
      | false =>
        rw [hb] at HPP
        have hgg : gc = 12 ∧ gi = -1 := by
          cases R with
          | none => have := HFE.out; injection this with _ h2; injection h2 with h3 h4; exact ⟨h3, h4⟩
          | some ys => cases hb
        obtain ⟨rfl, rfl⟩ := hgg
        clear hb HPL HFE
        go_upto_region 8 with (go_at_call 19; refine (HPO2.out _ HXA.out).mono ?_; rintro e w3 ⟨hx3, b, rfl, hbb⟩; obtain rfl : b = false := (by cases b with | false => rfl | true => exact absurd (HPP.out.2 (hbb.1 rfl)) (by simp)); have HX3 := Lib.hid (HXA.out.trans hx3); have k60 : w3.cell? ⟨g6, 0, none⟩ = some (.int .i64 12) := blk_cell (ext_heap hx3 HB.out) 0; have k61 : w3.cell? ⟨g6, 1, none⟩ = some (.int .i64 (-1)) := blk_cell (ext_heap hx3 HB.out) 1; clear hbb hx3)
        go_region_held3 (fun w' => w'.cell? ⟨g6, 0, none⟩ = some (.int .i64 12) ∧ w'.cell? ⟨g6, 1, none⟩ = some (.int .i64 (-1))) (go_keep) ((go_at_call 14; refine (At_c _ _ _).mono ?_; rintro e w' ⟨rfl, rfl⟩))
        all_goals go_wp2_with fail
        all_goals go_ret
        all_goals exact ⟨by first | rfl | simp, (HX3.out.drew).alloc _⟩
    · have e1 : (fc != 0) = true := by simpa using hz
      clear hz hin
      go_wp2_with fail
      refine (HMF.out _ HX.out).mono ?_
      rintro e w1 ⟨rfl, hx1⟩
      have HX1 := Lib.hid (HX.out.trans hx1)
      clear hx1
      simp only [fAgg]
      go_wp2_with fail
      go_ret
      exact ⟨by first | rfl | simp, HX1.out⟩
end Go.Proofs.Ytnijfndpefkoeaa
