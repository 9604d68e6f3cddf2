import Derived.Test.YtnijfndpefkoeaaRsF
namespace Go.Proofs.Ytnijfndpefkoeaa
open Go Go.Proofs Go.RowKit
open Ren (planF)
set_option maxHeartbeats 12800000
set_option maxRecDepth 100000
theorem plan_poss {L : List (Int × Int)} (hok : ∀ q ∈ L, okM q = true) {p : Nat} (hp : 1 ≤ p) : (planF (wsF L) p).isSome = true ↔ Ren.Possible (wsF L) p := Ren.plan_iff (ws_ok hok) hp
theorem law6_c (A : Option Addr) (L : List (Int × Int)) (c : Nat) (w : World) (hl : L.length ≤ maxLen) (h1 : Prs w A L) :
    Calls Try.prog 6 #[.slice A L.length c] w (BRet w true) := by
  have HCP := Lib.hid (fun (W : World) (x : Ext w W) => Cap_c A L c W hl (h1.ext x))
  have HMF := Lib.hid (fun (W : World) (x : Ext w W) => MediaFault_c A L c W hl (h1.ext x))
  have HFC := Lib.hid (fun (q : (faultM L).1 = 0) => faultM_code q)
  have HOK := Lib.hid (fun (q : faultM L = (0, 0)) => faultM_ok q)
  have HPO := Lib.hid (fun (W : World) (x : Ext w W) (p : Nat) (q : faultM L = (0, 0)) (hp : p ≤ 60) => Possible_c A L c p W (faultM_ok q).1 (h1.ext x) (faultM_ok q).2 hp)
  obtain ⟨n, hn⟩ : ∃ n, n = L.length := ⟨_, rfl⟩
  rw [← hn] at HCP HMF HPO ⊢
  obtain ⟨fc, fi, hf⟩ : ∃ fc fi, faultM L = (fc, fi) := ⟨_, _, rfl⟩
  unfold CapRet at HCP
  rw [hf] at HCP HMF HFC
  have HF := Lib.hid hf
  clear hl h1 hn hf
  go_enter Try.func6, Try.ntmps6
  go_upto_region 3 with (go_at_call 11; refine (due_c w).mono ?_; rintro e w0 ⟨rfl, hx0⟩; have HX := Lib.hid hx0; clear hx0)
  go_cut [3, 4] (fun s3 s4 wx => ∃ (g k : Nat), s3 = .int .i64 (k : Int) ∧ s4 = .pointer (some ⟨g, 0, none⟩) ∧ Hid (((fc, fi) ≠ (0, 0) → k = 0) ∧ ((fc, fi) = (0, 0) → 1 ≤ k ∧ k ≤ 60 ∧ (planF (wsF L) k).isSome = true ∧ ∀ m, 1 ≤ m → m < k → planF (wsF L) m = none)) ∧ wx.heap[g]? = some (.cells #[.int .i64 fc, .int .i64 fi] 26 (0, 0)) ∧ Ext w0 wx)
  case first =>
    go_wp2_with fail
    refine (HCP.out _ HX.out).mono ?_
    intro e w1 hr
    have hr2 : ∃ k : Nat, e = .returned (.tuple #[.int .i64 (k : Int), .agg #[.int .i64 fc, .int .i64 fi]]) ∧ Hid (((fc, fi) ≠ (0, 0) → k = 0) ∧ ((fc, fi) = (0, 0) → 1 ≤ k ∧ k ≤ 60 ∧ (planF (wsF L) k).isSome = true ∧ ∀ m, 1 ≤ m → m < k → planF (wsF L) m = none)) := by
      rcases hr.2 with ⟨hne, he⟩ | ⟨heq, k, he, k1, k2, k3, k4⟩
      · exact ⟨0, he, Lib.hid ⟨fun _ => rfl, fun q => absurd q hne⟩⟩
      · injection heq with q1 q2
        subst q1
        subst q2
        exact ⟨k, he, Lib.hid ⟨fun q => absurd rfl q, fun _ => ⟨k1, k2, k3, k4⟩⟩⟩
    obtain ⟨k, rfl, hk⟩ := hr2
    have HX1 := Lib.hid hr.1
    have HK := Lib.hid hk.out
    have HZ := Lib.hid (heap_alloc_new w1 (.cells #[.int .i64 0, .int .i64 0] 26))
    clear hr hk
    go_wp2_with (refine wpList_store_row rfl 26 _ _ rfl w1.heap.size #[.int .i64 fc, .int .i64 fi] rfl rfl 26 _ HZ.out sizeF rfl (by kernel_rfl) ?_)
    go_meet
    exact ⟨_, k, rfl, rfl, HK, (fvar fc fi).1, HX1.out.trans (fvar fc fi).2⟩
  obtain ⟨g4, k, rfl, rfl, hk, hb, hx⟩ := hcut
  obtain ⟨va, rfl⟩ : ∃ va : World, va = wc := ⟨_, rfl⟩
  have HK := Lib.hid hk.out
  have HB4 := Lib.hid hb
  have HX := Lib.hid (HX.out.trans hx)
  clear hk hb hx
  go_upto_region 4 with (fail)
  go_cut [5] (fun s5 wx => ∃ g, s5 = .pointer (some ⟨g, 0, none⟩) ∧ wx.heap[g]? = some (.cells #[.int .i64 fc, .int .i64 fi] 26 (0, 0)) ∧ Ext va wx)
  case first =>
    go_wp2_with fail
    refine (HMF.out _ HX.out).mono ?_
    rintro e w1 ⟨rfl, hx1⟩
    have HX1 := Lib.hid hx1
    have HZ := Lib.hid (heap_alloc_new w1 (.cells #[.int .i64 0, .int .i64 0] 26))
    clear hx1
    simp only [fAgg]
    go_wp2_with (refine wpList_store_row rfl 26 _ _ rfl w1.heap.size #[.int .i64 fc, .int .i64 fi] rfl rfl 26 _ HZ.out sizeF rfl (by kernel_rfl) ?_)
    go_meet
    exact ⟨_, rfl, (fvar fc fi).1, HX1.out.trans (fvar fc fi).2⟩
  obtain ⟨g5, rfl, hb, hx⟩ := hcut
  obtain ⟨vb, rfl⟩ : ∃ vb : World, vb = wc := ⟨_, rfl⟩
  have k40 : vb.cell? ⟨g4, 0, none⟩ = some (.int .i64 fc) := blk_cell (ext_heap hx HB4.out) 0
  have k41 : vb.cell? ⟨g4, 1, none⟩ = some (.int .i64 fi) := blk_cell (ext_heap hx HB4.out) 1
  have k50 : vb.cell? ⟨g5, 0, none⟩ = some (.int .i64 fc) := blk_cell hb 0
  have k51 : vb.cell? ⟨g5, 1, none⟩ = some (.int .i64 fi) := blk_cell hb 1
  have HX := Lib.hid (HX.out.trans hx)
  clear hb hx HB4
  by_cases hz : fc = 0
  · have hff : (fc, fi) = ((0 : Int), (0 : Int)) := HFC.out hz
    have hok := HOK.out (by rw [HF.out, hff])
    obtain ⟨k1, k2, k3, k4⟩ := HK.out.2 hff
    have HP1 := Lib.hid (HPO.out vb HX.out k (by rw [HF.out, hff]) k2)
    have HPS : Hid (Ren.Possible (wsF L) k) := Lib.hid ((plan_poss hok.2 k1).1 k3)
    have HNP : Hid (∀ j, 1 ≤ j → j < k → ¬ Ren.Possible (wsF L) j) := Lib.hid (fun j j1 j2 q => by
      have := (plan_poss hok.2 j1).2 q
      rw [k4 j j1 j2] at this
      cases this)
    have HPQ := Lib.hid (fun (W : World) (x : Ext w W) (j : Nat) (hj : j ≤ 60) => HPO.out W x j (by rw [HF.out, hff]) hj)
    have hin : inB (k : Int) 1 60 = true := by unfold inB; rw [decide_eq_true_eq]; omega
    have HIN := Lib.hid hin
    subst hz
    clear hff hok k3 k4 HCP HMF HFC HOK HPO HF HK hin
    go_upto_region 9 with (fail)
    by_cases hk1 : k = 1
    · have e1 : ((k : Int) == 1) = true := by simp; omega
      clear hk1
      go_wp2_with (go_at_call 16; refine (In_c _ _ _ _).mono ?_; rintro e w' ⟨rfl, rfl⟩; rw [HIN.out])
      refine HP1.out.mono ?_
      rintro e w2 ⟨hx2, b, rfl, hb⟩
      have hbt : b = true := hb.2 HPS.out
      have HX2 := Lib.hid (HX.out.trans hx2)
      subst hbt
      clear hb hx2
      go_wp2_with fail
      go_ret
      exact ⟨by first | rfl | simp, HX2.out⟩
    · obtain ⟨j, hj⟩ : ∃ j, k = j + 1 := ⟨k - 1, by omega⟩
      have HNJ := Lib.hid (HNP.out j (by omega) (by omega))
      have wk : IntKind.i64.wrap ((k : Int) - 1) = (j : Int) := by rw [show (k : Int) - 1 = (j : Int) by omega]; exact IntWalk.i64_in _ (by omega)
      have e1 : ((k : Int) == 1) = false := by simp; omega
      have hj60 : j ≤ 60 := by omega
      clear hj hk1
      go_wp2_with (go_at_call 16; refine (In_c _ _ _ _).mono ?_; rintro e w' ⟨rfl, rfl⟩; rw [HIN.out])
      refine HP1.out.mono ?_
      rintro e w2 ⟨hx2, b, rfl, hb⟩
      have hbt : b = true := hb.2 HPS.out
      have HX2 := Lib.hid (HX.out.trans hx2)
      subst hbt
      clear hb hx2
      go_wp2_with fail
      refine (HPQ.out _ HX2.out j hj60).mono ?_
      rintro e w3 ⟨hx3, b, rfl, hb⟩
      have hbf : b = false := by
        cases b with
        | false => rfl
        | true => exact absurd (hb.1 rfl) HNJ.out
      have HX3 := Lib.hid (HX2.out.trans hx3)
      subst hbf
      clear hb hx3
      go_wp2_with fail
      go_ret
      exact ⟨by first | rfl | simp, HX3.out⟩
  · have hk0 : k = 0 := HK.out.1 (fun q => hz (by injection q))
    subst hk0
    have e1 : (fc != 0) = true := by simpa using hz
    clear hz HCP HMF HFC HOK HPO HF HK
    go_wp2_with fail
    go_ret
    exact ⟨by first | rfl | simp, HX.out⟩
end Go.Proofs.Ytnijfndpefkoeaa
