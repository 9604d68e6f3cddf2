import Derived.Test.YtnijfndpefkoeaaRsF
namespace Go.Proofs.Ytnijfndpefkoeaa
open Go Go.Proofs Go.RowKit
set_option maxHeartbeats 12800000
set_option maxRecDepth 100000
/-- What Cheapest computes. -/
def cheapV (L : List (Int × Int)) (y : Int) : List Int × Int := if faultK L y = (0, 0) then Ren.bestAt L y.toNat else ([], 0)
def CheapR (w : World) (L : List (Int × Int)) (y : Int) (e : Ending) (w' : World) : Prop :=
  ∃ A c, e = .returned (.tuple #[.slice A (cheapV L y).1.length c, .int .i64 (cheapV L y).2, fAgg (faultK L y)]) ∧ Sl w' .i64 A (cheapV L y).1 ∧ (cheapV L y).1.length ≤ maxLen ∧ Ext w w'
theorem Cheap_c (A : Option Addr) (L : List (Int × Int)) (c : Nat) (y : Int) (w : World) (hl : L.length ≤ maxLen) (h1 : Prs w A L) (hy : I64 y) : Calls Try.prog 21 #[.slice A L.length c, .int .i64 y] w (CheapR w L y) := by
  have key : ∀ e w', CheapRet w L y e w' → CheapR w L y e w' := by
    rintro e w' ⟨hx, ⟨hf, rfl⟩ | ⟨hf, A, c, rfl, hs, hc1, hc2⟩⟩
    · unfold CheapR cheapV
      rw [if_neg hf]
      exact ⟨none, 0, rfl, SlC.nil _ _, Nat.zero_le _, hx⟩
    · unfold CheapR cheapV
      rw [if_pos hf, hf]
      exact ⟨A, c, rfl, hs, Nat.le_trans hc1 hc2, hx⟩
  by_cases h8 : 8 < L.length
  · exact (Cheap_long A L c y w hl h8).mono key
  · exact (Cheap_few A L c y w (by omega) h1 hy).mono key
theorem law7_c (A : Option Addr) (L : List (Int × Int)) (c : Nat) (y : Int) (w : World) (hl : L.length ≤ c) (hc : c ≤ maxLen) (h1 : Prs w A L) (hy : I64 y) :
    Calls Try.prog 7 #[.slice A L.length c, .int .i64 y] w (BRet w true) := by
  have HCH := Lib.hid (Cheap_c A L c y w (Nat.le_trans hl hc) h1 hy)
  have HKF := Lib.hid (fun (W : World) (x : Ext w W) => KindsFault_c A L c y W (Nat.le_trans hl hc) (h1.ext x))
  have HFK := Lib.hid (fun (q : faultK L y = (0, 0)) => faultK_ok q)
  have HFC := Lib.hid (fun (q : (faultK L y).1 = 0) => faultK_code q)
  have HKI := Lib.hid (fun (W : World) (x : Ext w W) (N : Nat) (q : faultK L (N : Int) = (0, 0)) => Kinds_c A L c N W (faultK_ok q).1 hl hc (h1.ext x) (faultK_ok q).2.1 (by have := (faultK_ok q).2.2.1; omega) (fun h e => by have := (faultK_ok q).2.2.2 (by omega); rw [e] at this; simp at this))
  have HCV : Hid (cheapV L y = if faultK L y = (0, 0) then Ren.bestAt L y.toNat else ([], 0)) := Lib.hid rfl
  obtain ⟨n, hn⟩ : ∃ n, n = L.length := ⟨_, rfl⟩
  rw [← hn] at HCH HKF HKI ⊢
  obtain ⟨fc, fi, hf⟩ : ∃ fc fi, faultK L y = (fc, fi) := ⟨_, _, rfl⟩
  unfold CheapR at HCH
  rw [hf] at HCH HKF HCV HFC
  have HF := Lib.hid hf
  obtain ⟨R, hR⟩ : ∃ R, R = cheapV L y := ⟨_, rfl⟩
  rw [← hR] at HCH HCV
  obtain ⟨K, x⟩ := R
  simp only at HCH
  obtain ⟨kl, hkl⟩ : ∃ kl, kl = K.length := ⟨_, rfl⟩
  have HKL := Lib.hid hkl
  rw [← hkl] at HCH
  clear hl hc h1 hy hn hf hR hkl
  go_enter Try.func7, Try.ntmps7
  go_upto_region 1 with (fail)
  go_cut [5, 6, 7] (fun s5 s6 s7 wx => ∃ g A5 c5, s5 = .slice A5 kl c5 ∧ s6 = .int .i64 x ∧ s7 = .pointer (some ⟨g, 0, none⟩) ∧ Sl wx .i64 A5 K ∧ kl ≤ maxLen ∧ wx.heap[g]? = some (.cells #[.int .i64 fc, .int .i64 fi] 26 (0, 0)) ∧ Ext w wx)
  case first =>
    go_wp2_with fail
    refine HCH.out.mono ?_
    rintro e w1 ⟨A5, c5, rfl, hs, hm, hx1⟩
    have HS := Lib.hid hs
    have HM := Lib.hid hm
    have HX1 := Lib.hid hx1
    have HZ := Lib.hid (heap_alloc_new w1 (.cells #[.int .i64 0, .int .i64 0] 26))
    clear hs hm hx1
    simp only [fAgg]
    go_wp2_with (refine wpList_store_row rfl 26 _ _ rfl w1.heap.size #[.int .i64 fc, .int .i64 fi] rfl rfl 26 _ HZ.out sizeF rfl (by kernel_rfl) ?_)
    go_meet
    exact ⟨_, A5, c5, rfl, rfl, rfl, HS.out.ext (fvar fc fi).2, HM.out, (fvar fc fi).1, HX1.out.trans (fvar fc fi).2⟩
  obtain ⟨g7, A5, c5, rfl, rfl, rfl, hs, hm, hb, hx⟩ := hcut
  obtain ⟨va, rfl⟩ : ∃ va : World, va = wc := ⟨_, rfl⟩
  have HS5 := Lib.hid hs
  have HM5 := Lib.hid hm
  have HB7 := Lib.hid hb
  have HX := Lib.hid hx
  clear hs hm hb hx
  go_upto_region 2 with (fail)
  go_cut [8] (fun s8 wx => ∃ g, s8 = .pointer (some ⟨g, 0, none⟩) ∧ wx.heap[g]? = some (.cells #[.int .i64 fc, .int .i64 fi] 26 (0, 0)) ∧ Ext va wx)
  case first =>
    go_wp2_with fail
    refine (HKF.out _ HX.out).mono ?_
    rintro e w1 ⟨rfl, hx1⟩
    have HX1 := Lib.hid hx1
    have HZ := Lib.hid (heap_alloc_new w1 (.cells #[.int .i64 0, .int .i64 0] 26))
    clear hx1
    simp only [fAgg]
    go_wp2_with (refine wpList_store_row rfl 26 _ _ rfl w1.heap.size #[.int .i64 fc, .int .i64 fi] rfl rfl 26 _ HZ.out sizeF rfl (by kernel_rfl) ?_)
    go_meet
    exact ⟨_, rfl, (fvar fc fi).1, HX1.out.trans (fvar fc fi).2⟩
  obtain ⟨g8, rfl, hb, hx⟩ := hcut
  obtain ⟨vb, rfl⟩ : ∃ vb : World, vb = wc := ⟨_, rfl⟩
  have HB7 := Lib.hid (ext_heap hx HB7.out)
  have HB8 := Lib.hid hb
  have HS5 := Lib.hid (HS5.out.ext hx)
  have HX := Lib.hid (HX.out.trans hx)
  clear hb hx
  go_upto_region 3 with (fail)
  go_cut [27] (fun s27 wx => s27 = .bool false ∧ Ext vb wx)
  case first =>
    go_wp2_with fail
    refine (due_c vb).mono ?_
    rintro e w1 ⟨rfl, hx1⟩
    have k70 : w1.cell? ⟨g7, 0, none⟩ = some (.int .i64 fc) := blk_cell (ext_heap hx1 HB7.out) 0
    have k71 : w1.cell? ⟨g7, 1, none⟩ = some (.int .i64 fi) := blk_cell (ext_heap hx1 HB7.out) 1
    have k80 : w1.cell? ⟨g8, 0, none⟩ = some (.int .i64 fc) := blk_cell (ext_heap hx1 HB8.out) 0
    have k81 : w1.cell? ⟨g8, 1, none⟩ = some (.int .i64 fi) := blk_cell (ext_heap hx1 HB8.out) 1
    have HX1 := Lib.hid hx1
    clear hx1
    go_wp2_with fail
    go_meet
    exact ⟨by first | rfl | simp, HX1.out⟩
  obtain ⟨rfl, hx⟩ := hcut
  obtain ⟨vc, rfl⟩ : ∃ vc : World, vc = wc := ⟨_, rfl⟩
  have k80 : vc.cell? ⟨g8, 0, none⟩ = some (.int .i64 fc) := blk_cell (ext_heap hx HB8.out) 0
  have HS5 := Lib.hid (HS5.out.ext hx)
  have HX := Lib.hid (HX.out.trans hx)
  clear hx
  by_cases hz : fc = 0
  · have hff : (fc, fi) = ((0 : Int), (0 : Int)) := HFC.out hz
    have hok := HFK.out (by rw [HF.out, hff])
    have hcv := HCV.out
    rw [if_pos hff] at hcv
    obtain ⟨N, hN⟩ : ∃ N : Nat, y = (N : Int) := ⟨y.toNat, by have := hok.2.2.1; omega⟩
    subst hN
    rw [Int.toNat_natCast] at hcv
    have HR := Lib.hid (HKI.out vc HX.out N (by rw [HF.out, hff]))
    unfold KindsRet at HR
    rw [← hcv] at HR
    simp only at HR
    rw [← HKL.out] at HR
    subst hz
    clear hff hok hcv HCH HKF HFK HFC HKI HCV HF
    go_upto_region 8 with (go_at_call 23; refine HR.out.mono ?_; rintro e w2 ⟨A9, c9, rfl, hs9, hm9, hx9⟩; have HS9 := Lib.hid hs9; have HM9 := Lib.hid hm9; have HX9 := Lib.hid hx9; clear hs9 hm9 hx9)
    have HIN := Lib.hid (Ints_c A5 A9 K K c5 c9 w2 (by rw [← HKL.out]; exact HM5.out) (by rw [← HKL.out]; exact HM5.out) (HS5.out.ext HX9.out) HS9.out)
    rw [← HKL.out] at HIN
    go_wp2_with fail
    refine HIN.out.mono ?_
    rintro e w3 ⟨rfl, m, rfl⟩
    go_wp2_with fail
    go_ret
    exact ⟨by first | rfl | simp, (HX.out.trans HX9.out).drewN m⟩
  · have hcv := HCV.out
    rw [if_neg (fun q => hz (by injection q))] at hcv
    injection hcv with hK hx0
    subst hK
    subst hx0
    have hk0 : kl = 0 := HKL.out
    subst hk0
    have e1 : (fc != 0) = true := by simpa using hz
    clear hz HCH HKF HFK HFC HKI HCV HF HKL
    go_wp2_with fail
    go_ret
    exact ⟨by first | rfl | simp, HX.out⟩
end Go.Proofs.Ytnijfndpefkoeaa
