import Derived.Test.YtnijfndpefkoeaaRnCb
namespace Go.Proofs.Ytnijfndpefkoeaa
open Go Go.Proofs Go.RowKit
set_option maxHeartbeats 6400000
set_option maxRecDepth 100000
theorem KindsFault_c (A : Option Addr) (L : List (Int × Int)) (c : Nat) (y : Int) (w : World) (hl : L.length ≤ maxLen) (h1 : Prs w A L) : Calls Try.prog 22 #[.slice A L.length c, .int .i64 y] w (FRet w (faultK L y)) := by
  unfold maxLen at hl
  obtain ⟨n, hn⟩ : ∃ n, n = L.length := ⟨_, rfl⟩
  obtain ⟨R, hR⟩ : ∃ R, R = faultK L y := ⟨_, rfl⟩
  have HRD : Hid (R = if 8 < n then (2, -1) else if (scanK 0 L).1 ≠ 0 then scanK 0 L else if inB y 0 1000 = false then (4, -2) else if 0 < y ∧ n = 0 then (12, -1) else (0, 0)) := Lib.hid (by rw [hR, hn]; rfl)
  rw [← hn] at hl ⊢
  rw [← hR]
  have HN := Lib.hid hn
  have H1 := Lib.hid h1
  clear h1 hR hn
  by_cases h2 : 8 < n
  · have HF : Hid ((2, -1) = R) := Lib.hid (by rw [HRD.out, if_pos h2])
    clear HRD
    go_enter Try.func22, Try.ntmps22
    have HZ := Lib.hid (heap_alloc2_old w (.cells #[.int .i64 0, .int .i64 0] 26) (.cells #[.int .i64 2, .int .i64 (-1)] 26))
    go_wp2_with (first | (go_at_call 14; refine (At_c _ _ _).mono ?_; rintro e w' ⟨rfl, rfl⟩) | refine wpList_store_row rfl 26 _ _ rfl w.heap.size #[.int .i64 2, .int .i64 (-1)] rfl rfl 26 _ HZ.out sizeF rfl (by kernel_rfl) ?_)
    refine bodyPost_ret (results_oneR rfl _ _ w.heap.size 26 #[.int .i64 2, .int .i64 (-1)] (0, 0) _ rfl (setRow_heap _ _ _ _ _ _ HZ.out) Try.underlying26 rfl sizeF) rfl (FRet.mk HF.out ((((Ext.refl w).alloc _).alloc _).setRow (Nat.le_refl _) _))
  · obtain ⟨S, hS⟩ : ∃ S, S = scanK 0 L := ⟨_, rfl⟩
    have HRS : Hid (∀ k : Int, S = (4, k) → (4, k) = R) := Lib.hid (fun k q => by rw [HRD.out, if_neg h2, ← hS, q, if_pos (by simp)])
    have HR0 : Hid (S = (0, 0) → R = if inB y 0 1000 = false then (4, -2) else if 0 < y ∧ n = 0 then (12, -1) else (0, 0)) := Lib.hid (fun q => by rw [HRD.out, if_neg h2, ← hS, q, if_neg (by simp)])
    have HS : Hid (scanK 0 (L.drop 0) = S) := Lib.hid (by rw [hS]; rfl)
    clear hS HRD
    go_enter Try.func22, Try.ntmps22
    go_upto_region 4 with (fail)
    go_loopw [5] (fun t5 wx => ∃ k : Nat, k ≤ n ∧ t5 = .int .i64 k ∧ wx.heap[w.heap.size]? = some (.cells #[.int .i64 0, .int .i64 0] 26 (0, 0)) ∧ Hid (scanK k (L.drop k) = S) ∧ Ext w wx) (fun t5 _ => n - (intOf t5).toNat)
    case atStart => exact ⟨0, Nat.zero_le _, rfl, heap_alloc_new w _, HS, (Ext.refl w).alloc _⟩
    case round =>
    obtain ⟨k, hk, rfl, hb, hsc, hx⟩ := hrel
    have HB := Lib.hid hb
    have HX := Lib.hid hx
    have hlt := (Array.getElem?_eq_some_iff.1 hb).1
    clear hb hx
    by_cases hlt2 : k < n
    · obtain ⟨m, hm⟩ : ∃ m, L[k]? = some m := ⟨_, List.getElem?_eq_getElem (by rw [← HN.out]; exact hlt2)⟩
      obtain ⟨bb, o, rfl, m0, m1⟩ := (H1.out.ext HX.out).at_ hm
      have HST := Lib.hid (scanK_step hm)
      obtain ⟨x0, x1⟩ := m
      simp only at m0 m1
      clear hm
      have HFK : Hid (okK (x0, x1) = false → (4, (k : Int)) = R) := Lib.hid (fun q => HRS.out k (by rw [← hsc.out, HST.out, if_pos q]))
      have HTK : Hid (okK (x0, x1) = true → scanK (k + 1) (L.drop (k + 1)) = S) := Lib.hid (fun q => by rw [← hsc.out, HST.out, if_neg (by rw [q]; decide)])
      have HZB := Lib.hid (ext_heap ((Ext.refl wr).alloc (.cells #[.int .i64 4, .int .i64 (k : Int)] 26)) HB.out)
      have HXR := Lib.hid (HX.out.alloc (.cells #[.int .i64 4, .int .i64 (k : Int)] 26))
      clear hsc HST
      go_upto_region 6 with (fail)
      go_cut [31] (fun s31 wx => s31 = .bool (!okK (x0, x1)) ∧ wx = wr)
      case first =>
        cases hv1 : inB x0 1 1000 with
        | false =>
          have HE : Hid (true = !okK (x0, x1)) := Lib.hid (by unfold okK; simp only; rw [hv1]; rfl)
          go_wp2_with (go_at_call 16; refine (In_c _ _ _ _).mono ?_; rintro e w' ⟨rfl, rfl⟩)
          go_meet
          exact ⟨by first | rw [← HE.out] | (simp; exact HE.out), rfl⟩
        | true =>
          cases hv2 : inB x1 0 1000000 with
          | false =>
            have HE : Hid (true = !okK (x0, x1)) := Lib.hid (by unfold okK; simp only; rw [hv1, hv2]; rfl)
            go_wp2_with (go_at_call 16; refine (In_c _ _ _ _).mono ?_; rintro e w' ⟨rfl, rfl⟩)
            go_meet
            exact ⟨by first | rw [← HE.out] | (simp; exact HE.out), rfl⟩
          | true =>
            have HE : Hid (false = !okK (x0, x1)) := Lib.hid (by unfold okK; simp only; rw [hv1, hv2]; rfl)
            go_wp2_with (go_at_call 16; refine (In_c _ _ _ _).mono ?_; rintro e w' ⟨rfl, rfl⟩)
            go_meet
            exact ⟨by first | rw [← HE.out] | (simp; exact HE.out), rfl⟩
      obtain ⟨rfl, hwx⟩ := hcut
      obtain ⟨wa, rfl⟩ : ∃ wa : World, wa = wc := ⟨_, rfl⟩
      subst hwx
      clear m0 m1
      cases hv : okK (x0, x1) with
      | true =>
        have HSN := Lib.hid (HTK.out hv)
        clear hv
        go_wp2
        go_roundw
        case rel => exact ⟨k + 1, hlt2, by go_num, HB.out, HSN, HX.out⟩
        case measure => simp [intOf]; omega
      | false =>
        have HSN := Lib.hid (HFK.out hv)
        clear hv
        go_upto_region 7 with (fail)
        go_wp2_with (first | (go_at_call 14; refine (At_c _ _ _).mono ?_; rintro e w' ⟨rfl, rfl⟩) | refine wpList_store_row rfl 26 _ _ rfl w.heap.size #[.int .i64 4, .int .i64 (k : Int)] rfl rfl 26 _ HZB.out sizeF rfl (by kernel_rfl) ?_)
        refine bodyPost_ret (results_oneR rfl _ _ w.heap.size 26 #[.int .i64 4, .int .i64 (k : Int)] (0, 0) _ rfl (setRow_heap _ _ _ _ _ _ HZB.out) Try.underlying26 rfl sizeF) rfl (FRet.mk HSN.out (HXR.out.setRow (Nat.le_refl _) _))
    · have HR1 := Lib.hid (HR0.out (by rw [← hsc.out, scanK_end (by rw [← HN.out]; omega)]))
      clear hsc HR0 HRS HS
      cases hv : inB y 0 1000 with
      | false =>
        have HF : Hid ((4, -2) = R) := Lib.hid (by rw [HR1.out, if_pos hv])
        have HZB := Lib.hid (ext_heap ((Ext.refl wr).alloc (.cells #[.int .i64 4, .int .i64 (-2)] 26)) HB.out)
        have HXR := Lib.hid (HX.out.alloc (.cells #[.int .i64 4, .int .i64 (-2)] 26))
        go_wp2_with (first | (go_at_call 16; refine (In_c _ _ _ _).mono ?_; rintro e w' ⟨rfl, rfl⟩) | (go_at_call 14; refine (At_c _ _ _).mono ?_; rintro e w' ⟨rfl, rfl⟩) | refine wpList_store_row rfl 26 _ _ rfl w.heap.size #[.int .i64 4, .int .i64 (-2)] rfl rfl 26 _ HZB.out sizeF rfl (by kernel_rfl) ?_)
        refine bodyPost_ret (results_oneR rfl _ _ w.heap.size 26 #[.int .i64 4, .int .i64 (-2)] (0, 0) _ rfl (setRow_heap _ _ _ _ _ _ HZB.out) Try.underlying26 rfl sizeF) rfl (FRet.mk HF.out (HXR.out.setRow (Nat.le_refl _) _))
      | true =>
        have HR2 : Hid (R = if 0 < y ∧ n = 0 then (12, -1) else (0, 0)) := Lib.hid (by rw [HR1.out, if_neg (by rw [hv]; decide)])
        clear HR1
        by_cases hy0 : 0 < y
        · by_cases hn0 : n = 0
          · have HF : Hid ((12, -1) = R) := Lib.hid (by rw [HR2.out, if_pos ⟨hy0, hn0⟩])
            have HZB := Lib.hid (ext_heap ((Ext.refl wr).alloc (.cells #[.int .i64 12, .int .i64 (-1)] 26)) HB.out)
            have HXR := Lib.hid (HX.out.alloc (.cells #[.int .i64 12, .int .i64 (-1)] 26))
            have hk0 : k = 0 := by omega
            subst hn0
            subst hk0
            clear HR2
            go_wp2_with (first | (go_at_call 16; refine (In_c _ _ _ _).mono ?_; rintro e w' ⟨rfl, rfl⟩) | (go_at_call 14; refine (At_c _ _ _).mono ?_; rintro e w' ⟨rfl, rfl⟩) | refine wpList_store_row rfl 26 _ _ rfl w.heap.size #[.int .i64 12, .int .i64 (-1)] rfl rfl 26 _ HZB.out sizeF rfl (by kernel_rfl) ?_)
            refine bodyPost_ret (results_oneR rfl _ _ w.heap.size 26 #[.int .i64 12, .int .i64 (-1)] (0, 0) _ rfl (setRow_heap _ _ _ _ _ _ HZB.out) Try.underlying26 rfl sizeF) rfl (FRet.mk HF.out (HXR.out.setRow (Nat.le_refl _) _))
          · have HF : Hid ((0, 0) = R) := Lib.hid (by rw [HR2.out, if_neg (fun q => hn0 q.2)])
            obtain ⟨c0, c1, f0, f1⟩ := Blk2.mk' HB.out
            have q1 : ((n : Int) == 0) = false := by simp; omega
            clear HR2
            go_wp2_with (go_at_call 16; refine (In_c _ _ _ _).mono ?_; rintro e w' ⟨rfl, rfl⟩)
            exact bodyPost_ret (results_oneR rfl _ _ w.heap.size 26 #[.int .i64 0, .int .i64 0] (0, 0) _ rfl (fblk_set HB.out) Try.underlying26 rfl sizeF) rfl (FRet.mk HF.out (ext_set2 HX.out (Nat.le_refl _) _ _))
        · have HF : Hid ((0, 0) = R) := Lib.hid (by rw [HR2.out, if_neg (fun q => hy0 q.1)])
          obtain ⟨c0, c1, f0, f1⟩ := Blk2.mk' HB.out
          clear HR2
          go_wp2_with (go_at_call 16; refine (In_c _ _ _ _).mono ?_; rintro e w' ⟨rfl, rfl⟩)
          exact bodyPost_ret (results_oneR rfl _ _ w.heap.size 26 #[.int .i64 0, .int .i64 0] (0, 0) _ rfl (fblk_set HB.out) Try.underlying26 rfl sizeF) rfl (FRet.mk HF.out (ext_set2 HX.out (Nat.le_refl _) _ _))
end Go.Proofs.Ytnijfndpefkoeaa
