import Derived.Test.YtnijfndpefkoeaaRsG
namespace Ren
theorem lives_take {ks : List (Int × Int)} {K : List Int} {i : Nat} {v : Int} (h : K[i]? = some v) : lives ks (K.take (i + 1)) = lives ks (K.take i) + lifeOf ks v := by
  unfold lives; rw [List.take_add_one, h]; simp
theorem costs_take {ks : List (Int × Int)} {K : List Int} {i : Nat} {v : Int} (h : K[i]? = some v) : costs ks (K.take (i + 1)) = costs ks (K.take i) + costOf ks v := by
  unfold costs; rw [List.take_add_one, h]; simp
theorem sums_bd {ks : List (Int × Int)} (kb : KBd ks) : ∀ M : List Int, (∀ v ∈ M, (0 : Int) ≤ v ∧ v < ks.length) → (0 ≤ lives ks M ∧ lives ks M ≤ M.length * 1000) ∧ (0 ≤ costs ks M ∧ costs ks M ≤ M.length * 1000000)
  | [], _ => by simp [lives, costs]
  | v :: M, h => by
    obtain ⟨⟨a1, a2⟩, a3, a4⟩ := sums_bd kb M fun x hx => h x (by simp [hx])
    obtain ⟨h1, h2⟩ := h v (by simp)
    obtain ⟨p, hp⟩ : ∃ p, ks[v.toNat]? = some p := ⟨_, List.getElem?_eq_getElem (by omega)⟩
    have l1 := kb.life _ p hp
    have l2 := kb.cost _ p hp
    have e1 : lifeOf ks v = p.1 := by unfold lifeOf; rw [hp]; rfl
    have e2 : costOf ks v = p.2 := by unfold costOf; rw [hp]; rfl
    rw [lives_cons, costs_cons, e1, e2, List.length_cons]
    refine ⟨⟨by omega, ?_⟩, by omega, ?_⟩
    · rw [show ((M.length + 1 : Nat) : Int) * 1000 = (M.length : Int) * 1000 + 1000 by omega]; omega
    · rw [show ((M.length + 1 : Nat) : Int) * 1000000 = (M.length : Int) * 1000000 + 1000000 by omega]; omega
def isort : List Int → List Int
  | [] => []
  | v :: l => ins v (isort l)
theorem isort_sorted : ∀ l, (isort l).Pairwise (· ≤ ·)
  | [] => List.Pairwise.nil
  | v :: l => ins_sorted v _ (isort_sorted l)
theorem isort_mem : ∀ (l : List Int) (x : Int), x ∈ isort l ↔ x ∈ l
  | [], x => Iff.rfl
  | v :: l, x => by rw [isort, ins_mem, isort_mem l x, List.mem_cons]
theorem isort_sums (ks : List (Int × Int)) : ∀ l : List Int, lives ks (isort l) = lives ks l ∧ costs ks (isort l) = costs ks l
  | [] => ⟨rfl, rfl⟩
  | v :: l => by
    obtain ⟨a, b⟩ := isort_sums ks l
    rw [isort, lives_ins, costs_ins, lives_cons, costs_cons, a, b]
    exact ⟨rfl, rfl⟩
theorem none_cheaper {ks : List (Int × Int)} {y : Int} {x : Choice} (h : IsBest ks 0 y x) {M : List Int} (hm : ∀ v ∈ M, (0 : Int) ≤ v ∧ v < ks.length) (hl : y ≤ lives ks M) : x.2 ≤ costs ks M := by
  obtain ⟨a, b⟩ := isort_sums ks M
  have := (h.best (isort M) ⟨isort_sorted M, fun v hv => hm v ((isort_mem M v).1 hv), by rw [a]; exact hl⟩).parts.1
  rw [← b]
  exact this
theorem best_sums {ks : List (Int × Int)} (ok : KOk ks) {N : Nat} (hne : 0 < N → ks ≠ []) : IsBest ks 0 N (bestAt ks N) := by
  rcases Nat.eq_zero_or_pos N with h | h
  · subst h
    exact best_zero ok (Int.le_refl _) (Int.le_refl _)
  · exact best_is ok (hne h) N
end Ren
namespace Go.Proofs.Ytnijfndpefkoeaa
open Go Go.Proofs Go.RowKit
open Ren (lives costs lifeOf costOf)
set_option maxHeartbeats 12800000
set_option maxRecDepth 100000
theorem law8_c (A B : Option Addr) (L : List (Int × Int)) (M : List Int) (c d : Nat) (y : Int) (w : World) (hl : L.length ≤ c) (hc : c ≤ maxLen) (h1 : Prs w A L) (hy : I64 y) (hm : M.length ≤ maxLen) (h2 : Sl w .i64 B M) :
    Calls Try.prog 8 #[.slice A L.length c, .int .i64 y, .slice B M.length d] w (BRet w true) := by
  have HCH := Lib.hid (fun (W : World) (x : Ext w W) => Cheap_c A L c y W (Nat.le_trans hl hc) (h1.ext x) hy)
  have HFK := Lib.hid (fun (q : faultK L y = (0, 0)) => faultK_ok q)
  have HFC := Lib.hid (fun (q : (faultK L y).1 = 0) => faultK_code q)
  have HCV : Hid (cheapV L y = if faultK L y = (0, 0) then Ren.bestAt L y.toNat else ([], 0)) := Lib.hid rfl
  have H1 := Lib.hid h1
  have H2 := Lib.hid h2
  obtain ⟨n, hn⟩ : ∃ n, n = L.length := ⟨_, rfl⟩
  have HN := Lib.hid hn
  obtain ⟨m, hme⟩ : ∃ m, m = M.length := ⟨_, rfl⟩
  have HM := Lib.hid hme
  rw [← hn] at HCH ⊢
  rw [← hme] at hm ⊢
  obtain ⟨fc, fi, hf⟩ : ∃ fc fi, faultK L y = (fc, fi) := ⟨_, _, rfl⟩
  unfold CheapR at HCH
  rw [hf] at HCH HCV HFC
  have HF := Lib.hid hf
  obtain ⟨R, hR⟩ : ∃ R, R = cheapV L y := ⟨_, rfl⟩
  rw [← hR] at HCH HCV
  obtain ⟨K, x⟩ := R
  simp only at HCH
  obtain ⟨kl, hkl⟩ : ∃ kl, kl = K.length := ⟨_, rfl⟩
  have HKL := Lib.hid hkl
  rw [← hkl] at HCH
  unfold maxLen at hm
  clear hl hc h1 h2 hy hn hf hR hkl hme
  go_enter Try.func8, Try.ntmps8
  go_upto_region 3 with (go_at_call 11; refine (due_c w).mono ?_; rintro e w0 ⟨rfl, hx0⟩; have HX := Lib.hid hx0; clear hx0)
  go_cut [7, 8, 9] (fun s5 s6 s7 wx => ∃ g A5 c5, s5 = .slice A5 kl c5 ∧ s6 = .int .i64 x ∧ s7 = .pointer (some ⟨g, 0, none⟩) ∧ Sl wx .i64 A5 K ∧ kl ≤ maxLen ∧ wx.heap[g]? = some (.cells #[.int .i64 fc, .int .i64 fi] 26 (0, 0)) ∧ Ext w0 wx)
  case first =>
    go_wp2_with fail
    refine (HCH.out _ HX.out).mono ?_
    rintro e w1 ⟨A5, c5, rfl, hs, hm, hx1⟩
    have HS := Lib.hid hs
    have HM := Lib.hid hm
    have HX1 := Lib.hid hx1
    have HZ := Lib.hid (heap_alloc_new w1 (.cells #[.int .i64 0, .int .i64 0] 26))
    clear hs hm hx1
    simp only [fAgg]
    go_wp2_with (refine wpList_store_row rfl 26 _ _ rfl w1.heap.size #[.int .i64 fc, .int .i64 fi] rfl rfl 26 _ HZ.out sizeF rfl (by kernel_rfl) ?_)
    go_meet
    exact ⟨_, A5, c5, rfl, rfl, rfl, HS.out.ext (fvar fc fi).2, HM.out, (fvar fc fi).1, HX1.out.trans (fvar fc fi).2⟩
  obtain ⟨g9, A5, c5, rfl, rfl, rfl, hs, hkm, hb, hx⟩ := hcut
  obtain ⟨va, rfl⟩ : ∃ va : World, va = wc := ⟨_, rfl⟩
  have HS5 := Lib.hid hs
  have k90 : va.cell? ⟨g9, 0, none⟩ = some (.int .i64 fc) := blk_cell hb 0
  have HX := Lib.hid (HX.out.trans hx)
  unfold maxLen at hkm
  clear hs hb hx
  by_cases hz : fc = 0
  · have hff : (fc, fi) = ((0 : Int), (0 : Int)) := HFC.out hz
    have hok := HFK.out (by rw [HF.out, hff])
    have hcv := HCV.out
    rw [if_pos hff] at hcv
    obtain ⟨N, hN⟩ : ∃ N : Nat, y = (N : Int) := ⟨y.toNat, by have := hok.2.2.1; omega⟩
    subst hN
    rw [Int.toNat_natCast] at hcv
    have hKB := kbd_ok hok.2.1
    have hbest := Ren.best_sums (kok_ok hok.2.1) (N := N) (fun h e => by have := hok.2.2.2 (by omega); rw [e] at this; simp at this)
    rw [← hcv] at hbest
    have HKB := Lib.hid hKB
    have HBE := Lib.hid hbest
    have hN1 : N ≤ 1000 := by have := hok.2.2.1; omega
    have hn8 : n ≤ 8 := by rw [HN.out]; exact hok.1
    have hkl1 : kl ≤ 1000 := by
      have := (Ren.best_small hKB N N (Nat.le_refl _)).len
      rw [← hcv] at this
      rw [HKL.out]
      exact Nat.le_trans this hN1
    subst hz
    clear hff hok hcv HCH HFK HFC HCV HF hKB hbest
    by_cases hml : 1000 < m
    · have e1 : decide ((m : Int) > 1000) = true := decide_eq_true (by omega)
      go_wp2_with fail
      go_ret
      exact ⟨by first | rfl | simp, HX.out⟩
    · have e1 : decide ((m : Int) > 1000) = false := decide_eq_false (by omega)
      have hml2 : m ≤ 1000 := by omega
      clear hml
      have wn : IntKind.i64.wrap ((n : Int) - 1) = (n : Int) - 1 := IntWalk.i64_in _ (by omega)
      go_upto_region 9 with (fail)
      go_loopw [10, 11, 12] (fun t10 t11 t12 wx => ∃ i : Nat, t12 = .int .i64 (i : Int) ∧ i ≤ kl ∧ t10 = .int .i64 (lives L (K.take i)) ∧ t11 = .int .i64 (costs L (K.take i)) ∧ wx = va) (fun _ _ t12 _ => kl - (intOf t12).toNat)
      case atStart => exact ⟨0, rfl, Nat.zero_le _, rfl, rfl, rfl⟩
      case round =>
        obtain ⟨i, rfl, hik, rfl, rfl, hw⟩ := hrel
        rw [hw]
        clear hw
        have hbd := Ren.sums_bd HKB.out (K.take i) (fun v hv => HBE.out.sol.rng v (List.mem_of_mem_take hv))
        have htl : (K.take i).length = i := by rw [List.length_take, ← HKL.out]; omega
        rw [htl] at hbd
        by_cases hlt : i < kl
        · obtain ⟨b5, o5, v, rfl, hv0, k5⟩ := HS5.out.at2 (i := i) (by rw [← HKL.out]; exact hlt)
          have hv := hv0.out
          obtain ⟨v1, v2⟩ := HBE.out.sol.rng v (List.mem_of_getElem? hv)
          obtain ⟨j, rfl⟩ : ∃ j : Nat, v = (j : Int) := ⟨v.toNat, by omega⟩
          have HLT := Lib.hid (Ren.lives_take (ks := L) hv)
          have HCT := Lib.hid (Ren.costs_take (ks := L) hv)
          rw [← HN.out] at v2
          obtain ⟨p, hp⟩ : ∃ p, L[j]? = some p := ⟨_, List.getElem?_eq_getElem (by rw [← HN.out]; omega)⟩
          obtain ⟨b, o, rfl, m0, m1⟩ := (H1.out.ext HX.out).at_ hp
          have l1 := HKB.out.life j p hp
          have l2 := HKB.out.cost j p hp
          have e3 : lifeOf L (j : Int) = p.1 := by unfold Ren.lifeOf; rw [Int.toNat_natCast, hp]; rfl
          have e4 : costOf L (j : Int) = p.2 := by unfold Ren.costOf; rw [Int.toNat_natCast, hp]; rfl
          rw [e3] at HLT
          rw [e4] at HCT
          obtain ⟨p0, p1⟩ := p
          simp only at l1 l2 HLT HCT m0 m1
          obtain ⟨S, hS⟩ : ∃ S, S = lives L (K.take i) := ⟨_, rfl⟩
          obtain ⟨T, hT⟩ : ∃ T, T = costs L (K.take i) := ⟨_, rfl⟩
          rw [← hS, ← hT] at hbd ⊢
          rw [← hS] at HLT
          rw [← hT] at HCT
          clear hS hT hv hv0 hp e3 e4 htl
          have w1 : IntKind.i64.wrap (S + p0) = S + p0 := IntWalk.i64_in _ (by omega)
          have w2 : IntKind.i64.wrap (T + p1) = T + p1 := IntWalk.i64_in _ (by omega)
          have hin : inB (j : Int) 0 ((n : Int) - 1) = true := by unfold inB; rw [decide_eq_true_eq]; omega
          have HIN := Lib.hid hin
          clear hin hbd
          go_wp2_with (go_at_call 16; refine (In_c _ _ _ _).mono ?_; rintro e w' ⟨rfl, rfl⟩; rw [HIN.out])
          go_roundw
          case rel => exact ⟨i + 1, by go_num, hlt, by rw [HLT.out], by rw [HCT.out], by first | rfl | trivial⟩
          case measure => simp [intOf]; omega
        · have hie : i = kl := by omega
          have htk : K.take i = K := List.take_of_length_le (by rw [← HKL.out]; omega)
          rw [htk] at hbd ⊢
          have hS1 := HBE.out.sol.life
          have hT1 : costs L K = x := HBE.out.cost.symm
          rw [hT1]
          have HNC := Lib.hid (fun (q : ∀ v ∈ M, (0 : Int) ≤ v ∧ v < L.length) (r : (N : Int) ≤ lives L M) => Ren.none_cheaper HBE.out q r)
          simp only at hS1 HNC
          obtain ⟨S, hS⟩ : ∃ S, S = lives L K := ⟨_, rfl⟩
          rw [← hS] at hS1 ⊢
          have e5 : decide (S < (N : Int)) = false := decide_eq_false (by omega)
          clear hS hT1 htk htl hie hbd hS1
          go_upto_region 20 with (fail)
          go_loopw [13, 14, 15] (fun t13 t14 t15 wx => ∃ i : Nat, t15 = .int .i64 (i : Int) ∧ i ≤ m ∧ t13 = .int .i64 (lives L (M.take i)) ∧ t14 = .int .i64 (costs L (M.take i)) ∧ Hid (∀ v ∈ M.take i, (0 : Int) ≤ v ∧ v < L.length) ∧ wx = va) (fun _ _ t15 _ => m - (intOf t15).toNat)
          case atStart => exact ⟨0, rfl, Nat.zero_le _, rfl, rfl, Lib.hid (fun v hv => by simp at hv), rfl⟩
          case round =>
            clear hlt hik
            obtain ⟨i, rfl, him, rfl, rfl, hrg, hw⟩ := hrel
            have HRG := Lib.hid hrg.out
            clear hrg
            rw [hw]
            clear hw
            have hbd := Ren.sums_bd HKB.out (M.take i) HRG.out
            have htl : (M.take i).length = i := by rw [List.length_take, ← HM.out]; omega
            rw [htl] at hbd
            by_cases hlt : i < m
            · obtain ⟨b2, o2, v, rfl, hv0, k2⟩ := (H2.out.ext HX.out).at2 (i := i) (by rw [← HM.out]; exact hlt)
              have hv := hv0.out
              by_cases hr : (0 : Int) ≤ v ∧ v < (n : Int)
              · obtain ⟨v1, v2⟩ := hr
                obtain ⟨j, rfl⟩ : ∃ j : Nat, v = (j : Int) := ⟨v.toNat, by omega⟩
                have HLT := Lib.hid (Ren.lives_take (ks := L) hv)
                have HCT := Lib.hid (Ren.costs_take (ks := L) hv)
                have HRN : Hid (∀ u ∈ M.take (i + 1), (0 : Int) ≤ u ∧ u < L.length) := Lib.hid (fun u hu => by
                  rw [List.take_add_one, hv] at hu
                  rcases List.mem_append.1 hu with q | q
                  · exact HRG.out u q
                  · have : u = (j : Int) := by simpa using q
                    rw [this, ← HN.out]
                    exact ⟨v1, v2⟩)
                obtain ⟨p, hp⟩ : ∃ p, L[j]? = some p := ⟨_, List.getElem?_eq_getElem (by rw [← HN.out]; omega)⟩
                obtain ⟨b, o, rfl, m0, m1⟩ := (H1.out.ext HX.out).at_ hp
                have l1 := HKB.out.life j p hp
                have l2 := HKB.out.cost j p hp
                have e3 : lifeOf L (j : Int) = p.1 := by unfold Ren.lifeOf; rw [Int.toNat_natCast, hp]; rfl
                have e4 : costOf L (j : Int) = p.2 := by unfold Ren.costOf; rw [Int.toNat_natCast, hp]; rfl
                rw [e3] at HLT
                rw [e4] at HCT
                obtain ⟨p0, p1⟩ := p
                simp only at l1 l2 HLT HCT m0 m1
                obtain ⟨S2, hS⟩ : ∃ S, S = lives L (M.take i) := ⟨_, rfl⟩
                obtain ⟨T2, hT⟩ : ∃ T, T = costs L (M.take i) := ⟨_, rfl⟩
                rw [← hS, ← hT] at hbd ⊢
                rw [← hS] at HLT
                rw [← hT] at HCT
                clear hS hT hv hv0 hp e3 e4 htl
                have w1 : IntKind.i64.wrap (S2 + p0) = S2 + p0 := IntWalk.i64_in _ (by omega)
                have w2 : IntKind.i64.wrap (T2 + p1) = T2 + p1 := IntWalk.i64_in _ (by omega)
                have hin : inB (j : Int) 0 ((n : Int) - 1) = true := by unfold inB; rw [decide_eq_true_eq]; omega
                have HIN := Lib.hid hin
                clear hin hbd
                go_wp2_with (go_at_call 16; refine (In_c _ _ _ _).mono ?_; rintro e w' ⟨rfl, rfl⟩; rw [HIN.out])
                go_roundw
                case rel => exact ⟨i + 1, by go_num, hlt, by rw [HLT.out], by rw [HCT.out], HRN, by first | rfl | trivial⟩
                case measure => simp [intOf]; omega
              · have hin : inB v 0 ((n : Int) - 1) = false := by unfold inB; rw [decide_eq_false_iff_not]; omega
                have HIN := Lib.hid hin
                clear hin hbd hr hv hv0 htl
                go_wp2_with (go_at_call 16; refine (In_c _ _ _ _).mono ?_; rintro e w' ⟨rfl, rfl⟩; rw [HIN.out])
                go_ret
                exact ⟨by first | rfl | simp, HX.out⟩
            · have hie : i = m := by omega
              have htk : M.take i = M := List.take_of_length_le (by rw [← HM.out]; omega)
              have HRA := HRG.out
              rw [htk] at HRA ⊢
              have HNX := Lib.hid (HNC.out HRA)
              obtain ⟨S2, hS⟩ : ∃ S, S = lives L M := ⟨_, rfl⟩
              obtain ⟨T2, hT⟩ : ∃ T, T = costs L M := ⟨_, rfl⟩
              rw [← hS, ← hT] at HNX ⊢
              clear hS hT htk htl hie hbd HRA
              by_cases d1 : S2 < (N : Int)
              · have f1 : decide (S2 < (N : Int)) = true := decide_eq_true d1
                clear d1
                go_wp2_with fail
                go_ret
                exact ⟨by first | rfl | simp, HX.out⟩
              · have f1 : decide (S2 < (N : Int)) = false := decide_eq_false d1
                have f2 : decide (T2 ≥ x) = true := decide_eq_true (HNX.out (by omega))
                clear d1
                go_wp2_with fail
                go_ret
                exact ⟨by first | rfl | simp, HX.out⟩
  · have hcv := HCV.out
    rw [if_neg (fun q => hz (by injection q))] at hcv
    injection hcv with hK hx0
    subst hK
    subst hx0
    have hk0 : kl = 0 := HKL.out
    subst hk0
    have e1 : (fc != 0) = true := by simpa using hz
    have e2 : (fc == 0) = false := by simpa using hz
    clear hz HCH HFK HFC HCV HF HKL
    go_wp2_with fail
    go_ret
    exact ⟨by first | rfl | simp, HX.out⟩
end Go.Proofs.Ytnijfndpefkoeaa
