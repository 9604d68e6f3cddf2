import Derived.Test.YtnijfndpefkoeaaRnCb
import Derived.Deep.RegionHeld3
namespace Go.Proofs.Ytnijfndpefkoeaa
open Go Go.Proofs Go.RowKit
open Ren (bestAt bests foldC)
set_option maxHeartbeats 12800000
set_option maxRecDepth 100000
theorem Cheap_long (A : Option Addr) (L : List (Int × Int)) (c : Nat) (y : Int) (w : World) (hl : L.length ≤ maxLen) (h8 : 8 < L.length) : Calls Try.prog 21 #[.slice A L.length c, .int .i64 y] w (CheapRet w L y) := by
  unfold maxLen at hl
  have hf : faultK L y = (2, -1) := by unfold faultK; rw [if_pos h8]
  have HE : Hid (∀ W, Ext w W → CheapRet w L y (.returned (.tuple #[.slice none 0 0, .int .i64 0, .agg #[.int .i64 2, .int .i64 (-1)]])) W) := Lib.hid (fun W x => ⟨x, .inl ⟨by rw [hf]; decide, by rw [hf]; rfl⟩⟩)
  have HX := Lib.hid (((Ext.refl w).alloc (.cells #[.int .i64 0, .int .i64 0] 26)).alloc (.cells #[.int .i64 2, .int .i64 (-1)] 26))
  have HB := Lib.hid (heap_alloc2_old w (.cells #[.int .i64 0, .int .i64 0] 26) (.cells #[.int .i64 2, .int .i64 (-1)] 26))
  obtain ⟨n, hn⟩ : ∃ n, n = L.length := ⟨_, rfl⟩
  rw [← hn] at h8 hl ⊢
  clear hf hn
  go_enter Try.func21, Try.ntmps21
  go_wp2_with (first | (go_at_call 25; refine (tfault_c _ _ _).mono ?_; rintro e w' ⟨rfl, rfl⟩) | refine wpList_store_row rfl 26 _ _ rfl w.heap.size #[.int .i64 2, .int .i64 (-1)] rfl rfl 26 _ HB.out sizeF rfl (by kernel_rfl) ?_)
  exact bodyPost_ret (results_ttc Try.results21 _ _ w.heap.size 26 #[.int .i64 2, .int .i64 (-1)] (0, 0) _ rfl (setRow_heap _ _ _ _ _ _ HB.out) Try.underlying26 rfl sizeF) rfl (HE.out _ (HX.out.setRow (Nat.le_refl _) _))
theorem Cheap_few (A : Option Addr) (L : List (Int × Int)) (c : Nat) (y : Int) (w : World) (h8 : L.length ≤ 8) (h1 : Prs w A L) (hy64 : I64 y) : Calls Try.prog 21 #[.slice A L.length c, .int .i64 y] w (CheapRet w L y) := by
  obtain ⟨hyl, hyh⟩ := hy64
  obtain ⟨n, hn⟩ : ∃ n, n = L.length := ⟨_, rfl⟩
  rw [← hn] at h8 ⊢
  have HN := Lib.hid hn
  have H1 := Lib.hid h1
  have hf0 : faultK L y = if (scanK 0 L).1 ≠ 0 then scanK 0 L else if inB y 0 1000 = false then (4, -2) else if 0 < y ∧ L.length = 0 then (12, -1) else (0, 0) := by unfold faultK; rw [if_neg (by omega)]
  have HF0 := Lib.hid hf0
  obtain ⟨S, hS⟩ : ∃ S, S = scanK 0 L := ⟨_, rfl⟩
  rw [← hS] at HF0
  have HS : Hid (scanK 0 (L.drop 0) = S) := Lib.hid hS.symm
  clear h1 hf0 hn
  have HS2 := Lib.hid hS
  clear hS
  go_enter Try.func21, Try.ntmps21
  go_upto_region 4 with (fail)
  go_loopw [24] (fun t24 wx => ∃ k : Nat, k ≤ n ∧ t24 = .int .i64 k ∧ wx.heap[w.heap.size]? = some (.cells #[.int .i64 0, .int .i64 0] 26 (0, 0)) ∧ Hid (scanK k (L.drop k) = S) ∧ Ext w wx) (fun t24 _ => n - (intOf t24).toNat)
  case atStart => exact ⟨0, Nat.zero_le _, rfl, heap_alloc_new w _, HS, (Ext.refl w).alloc _⟩
  case round =>
  obtain ⟨k, hk, rfl, hb, hsc, hx⟩ := hrel
  have HB := Lib.hid hb
  have HX := Lib.hid hx
  have hlt := (Array.getElem?_eq_some_iff.1 hb).1
  clear hb hx
  by_cases hlt2 : k < n
  · obtain ⟨m, hm⟩ : ∃ m, L[k]? = some m := ⟨_, List.getElem?_eq_getElem (by rw [← HN.out]; exact hlt2)⟩
    obtain ⟨bb, o, rfl, m0, m1⟩ := (H1.out.ext HX.out).at_ hm
    have HST := Lib.hid (scanK_step hm)
    have HOK : Hid (okK m = (decide (1 ≤ m.1 ∧ m.1 ≤ 1000) && decide (0 ≤ m.2 ∧ m.2 ≤ 1000000))) := Lib.hid rfl
    obtain ⟨x0, x1⟩ := m
    simp only at m0 m1 HOK
    clear hm
    have XA : Ext wr (wr.alloc (.cells #[.int .i64 x0, .int .i64 x1] 55)) := (Ext.refl wr).alloc _
    have HBA := Lib.hid (ext_heap XA HB.out)
    have HXA := Lib.hid (HX.out.trans XA)
    clear XA
    go_upto_region 6 with (fail)
    go_cut [46] (fun s46 wx => s46 = .bool (!okK (x0, x1)) ∧ wx = wr.alloc (.cells #[.int .i64 x0, .int .i64 x1] 55))
    case first =>
      by_cases a1 : x0 < 1
      · have HE : Hid (true = !okK (x0, x1)) := Lib.hid (by rw [HOK.out, decide_eq_false (by omega)]; rfl)
        go_wp2
        go_meet
        exact ⟨by first | rw [← HE.out] | (simp; exact HE.out), rfl⟩
      · by_cases a2 : 1000 < x0
        · have HE : Hid (true = !okK (x0, x1)) := Lib.hid (by rw [HOK.out, decide_eq_false (by omega)]; rfl)
          go_wp2
          go_meet
          exact ⟨by first | rw [← HE.out] | (simp; exact HE.out), rfl⟩
        · by_cases a3 : x1 < 0
          · have HE : Hid (true = !okK (x0, x1)) := Lib.hid (by rw [HOK.out, decide_eq_false (p := 0 ≤ x1 ∧ x1 ≤ 1000000) (by omega)]; simp)
            go_wp2
            go_meet
            exact ⟨by first | rw [← HE.out] | (simp; exact HE.out), rfl⟩
          · by_cases a4 : 1000000 < x1
            · have HE : Hid (true = !okK (x0, x1)) := Lib.hid (by rw [HOK.out, decide_eq_false (p := 0 ≤ x1 ∧ x1 ≤ 1000000) (by omega)]; simp)
              go_wp2
              go_meet
              exact ⟨by first | rw [← HE.out] | (simp; exact HE.out), rfl⟩
            · have HE : Hid (false = !okK (x0, x1)) := Lib.hid (by rw [HOK.out, decide_eq_true (p := 0 ≤ x1 ∧ x1 ≤ 1000000) (by omega), decide_eq_true (by omega)]; rfl)
              go_wp2
              go_meet
              exact ⟨by first | rw [← HE.out] | (simp; exact HE.out), rfl⟩
    obtain ⟨rfl, rfl⟩ := hcut
    obtain ⟨wk, hwk⟩ : ∃ wk, wk = wr.alloc (.cells #[.int .i64 x0, .int .i64 x1] 55) := ⟨_, rfl⟩
    rw [← hwk] at HBA HXA
    rw [← hwk]
    clear hwk HOK m0 m1
    cases hv : okK (x0, x1) with
    | true =>
      have HSN : Hid (scanK (k + 1) (L.drop (k + 1)) = S) := Lib.hid (by rw [← hsc.out, HST.out, if_neg (by rw [hv]; decide)])
      clear hv hsc HST
      go_wp2
      go_roundw
      case rel => exact ⟨k + 1, hlt2, by go_num, HBA.out, HSN, HXA.out⟩
      case measure => simp [intOf]; omega
    | false =>
      have HSN : Hid (faultK L y = (4, (k : Int))) := Lib.hid (by rw [HF0.out, ← hsc.out, HST.out, if_pos hv, if_pos (by simp)])
      have HE : Hid (∀ W, Ext w W → CheapRet w L y (.returned (.tuple #[.slice none 0 0, .int .i64 0, .agg #[.int .i64 4, .int .i64 (k : Int)]])) W) := Lib.hid (fun W x => ⟨x, .inl ⟨by rw [HSN.out]; intro q; injection q with q _; omega, by rw [HSN.out]; rfl⟩⟩)
      clear hv hsc
      go_upto_region 7 with (fail)
      have X3 : Ext wk (wk.alloc (.cells #[.int .i64 4, .int .i64 (k : Int)] 26)) := (Ext.refl wk).alloc _
      have HZB := Lib.hid (ext_heap X3 HBA.out)
      have HXR := Lib.hid (HXA.out.trans X3)
      clear X3
      go_wp2_with (first | (go_at_call 25; refine (tfault_c _ _ _).mono ?_; rintro e w' ⟨rfl, rfl⟩) | refine wpList_store_row rfl 26 _ _ rfl w.heap.size #[.int .i64 4, .int .i64 (k : Int)] rfl rfl 26 _ HZB.out sizeF rfl (by kernel_rfl) ?_)
      exact bodyPost_ret (results_ttc Try.results21 _ _ w.heap.size 26 #[.int .i64 4, .int .i64 (k : Int)] (0, 0) _ rfl (setRow_heap _ _ _ _ _ _ HZB.out) Try.underlying26 rfl sizeF) rfl (HE.out _ (HXR.out.setRow (Nat.le_refl _) _))
  · have hs0 : S = (0, 0) := by rw [← hsc.out, scanK_end (by rw [← HN.out]; omega)]
    have HF1 := HF0
    rw [hs0] at HF1
    have HF2 : Hid (faultK L y = if inB y 0 1000 = false then (4, -2) else if 0 < y ∧ L.length = 0 then (12, -1) else (0, 0)) := Lib.hid (by rw [HF1.out, if_neg (by simp)])
    have HSK : Hid (scanK 0 L = (0, 0)) := Lib.hid (by rw [← HS2.out, hs0])
    clear hs0 HF1 hsc HF0 HS HS2
    by_cases hy : 0 ≤ y ∧ y ≤ 1000
    · have HF3 : Hid (faultK L y = if 0 < y ∧ L.length = 0 then (12, -1) else (0, 0)) := Lib.hid (by rw [HF2.out, if_neg (by simp [inB]; omega)])
      obtain ⟨hy0, hy1⟩ := hy
      clear HF2
      by_cases he : 0 < y ∧ n = 0
      · have HFF : Hid (faultK L y = (12, -1)) := Lib.hid (by rw [HF3.out, if_pos (by rw [← HN.out]; exact he)])
        have HE : Hid (∀ W, Ext w W → CheapRet w L y (.returned (.tuple #[.slice none 0 0, .int .i64 0, .agg #[.int .i64 12, .int .i64 (-1)]])) W) := Lib.hid (fun W x => ⟨x, .inl ⟨by rw [HFF.out]; intro q; injection q with q _; omega, by rw [HFF.out]; rfl⟩⟩)
        obtain ⟨he1, rfl⟩ := he
        have hk0 : k = 0 := by omega
        subst hk0
        go_upto_region 12 with (fail)
        have X3 : Ext wr (wr.alloc (.cells #[.int .i64 12, .int .i64 (-1)] 26)) := (Ext.refl wr).alloc _
        have HZB := Lib.hid (ext_heap X3 HB.out)
        have HXR := Lib.hid (HX.out.trans X3)
        clear X3
        go_wp2_with (first | (go_at_call 25; refine (tfault_c _ _ _).mono ?_; rintro e w' ⟨rfl, rfl⟩) | refine wpList_store_row rfl 26 _ _ rfl w.heap.size #[.int .i64 12, .int .i64 (-1)] rfl rfl 26 _ HZB.out sizeF rfl (by kernel_rfl) ?_)
        exact bodyPost_ret (results_ttc Try.results21 _ _ w.heap.size 26 #[.int .i64 12, .int .i64 (-1)] (0, 0) _ rfl (setRow_heap _ _ _ _ _ _ HZB.out) Try.underlying26 rfl sizeF) rfl (HE.out _ (HXR.out.setRow (Nat.le_refl _) _))
      · have HFF : Hid (faultK L y = (0, 0)) := Lib.hid (by rw [HF3.out, if_neg (by rw [← HN.out]; exact he)])
        obtain ⟨N, hNe⟩ : ∃ N : Nat, y = (N : Int) := ⟨y.toNat, by omega⟩
        subst hNe
        clear HF3
        have HY : Hid (0 < N → 0 < n) := Lib.hid (fun h => by omega)
        clear hyl hyh he
        go_upto_region 11 with (fail)
        go_cut [58] (fun s58 wx => s58 = .bool false ∧ wx = wr)
        case first =>
          by_cases hN0 : 0 < N
          · have hn0 : 0 < n := HY.out hN0
            have q1 : ((n : Int) == 0) = false := by simp; omega
            go_wp2
            go_meet
            exact ⟨by first | rfl | simp; first | done | omega, rfl⟩
          · have hN00 : N = 0 := by omega
            subst hN00
            go_wp2
            go_meet
            exact ⟨by first | rfl | simp, rfl⟩
        obtain ⟨rfl, hwx⟩ := hcut
        obtain ⟨wa, rfl⟩ : ∃ wa : World, wa = wc := ⟨_, rfl⟩
        rw [← hwx] at HB HX hlt
        clear hwx
        go_upto_region 13 with (fail)
        obtain ⟨gF, hgF⟩ : ∃ gF, gF = w.heap.size := ⟨_, rfl⟩
        have HGF := Lib.hid hgF
        rw [← hgF] at HB hlt ⊢
        clear hgF
        have HBF := Lib.hid hlt
        go_cut [9] (fun s9 wx => TabIs wx (gF + 1) s9 [([], 0)] ∧ Ext wa wx)
        case first =>
          have HT := Lib.hid (tab_zero (w := wa) (B := gF + 1) HBF.out)
          have HXA := Lib.hid ((Ext.refl wa).alloc (.cells #[.slice none 0 0, .int .i64 0] 58))
          have r1 := run_build_ch0 wa
          have r2 := run_buildSlice_ch0 wa
          go_wp2
          go_meet
          exact ⟨HT.out, HXA.out⟩
        obtain ⟨htab, hxa⟩ := hcut
        obtain ⟨wb, rfl⟩ : ∃ wb : World, wb = wc := ⟨_, rfl⟩
        have HT := Lib.hid htab
        have HXB := Lib.hid (HX.out.trans hxa)
        have HBB := Lib.hid (ext_heap hxa HB.out)
        have HKB := Lib.hid (kbd_ok (scanK_ok L 0 HSK.out))
        clear htab hxa HB HX hlt HBF
        go_upto_region 15 with (fail)
        go_loopw [9, 10] (fun t9 t10 wx => ∃ (y : Nat), t10 = .int .i64 ((y : Int) + 1) ∧ y ≤ N ∧ TabIs wx (gF + 1) t9 (bests L y) ∧ wx.heap[gF]? = some (.cells #[.int .i64 0, .int .i64 0] 26 (0, 0)) ∧ Ext w wx) (fun _ t10 _ => N + 1 - (intOf t10).toNat)
        case atStart => exact ⟨0, rfl, Nat.zero_le _, HT.out, HBB.out, HXB.out⟩
        case round =>
          obtain ⟨y, rfl, hyN, htab, hbf, hxr⟩ := hrel
          have HT := Lib.hid htab
          have HBR := Lib.hid hbf
          have HXR := Lib.hid hxr
          have hbl := Ren.bests_len L y
          have HBL := Lib.hid hbl
          clear htab hbf hxr hbl
          by_cases hyl : y < N
          · have e0 : decide ((y : Int) + 1 ≤ (N : Int)) = true := decide_eq_true (by omega)
            have hn0 : 0 < n := HY.out (by omega)
            obtain ⟨g9, cap9, _, rfl, _, _, _⟩ := HT.out.get (Ren.bests_some L (Nat.zero_le y))
            rw [HBL.out] at HT ⊢
            obtain ⟨wy, rfl⟩ : ∃ wy : World, wy = wr := ⟨_, rfl⟩
            have hkn0 : KOwn (wy.alloc (.cells #[.slice none 0 0, .int .i64 0] 58)) (gF + 1) (.slice none 0 0) [] := ⟨rfl, .inl ⟨rfl, rfl⟩⟩
            have HK0 := Lib.hid hkn0
            have HXI := Lib.hid ((Ext.refl wy).alloc (.cells #[.slice none 0 0, .int .i64 0] 58))
            have HBI := Lib.hid (heap_alloc_new wy (.cells #[.slice none 0 0, .int .i64 0] 58))
            clear hkn0
            go_upto_region 19 with (fail)
            go_loopw [76] (fun t76 wx => ∃ (i : Nat) (u : Value), t76 = .int .i64 (i : Int) ∧ i ≤ n ∧ wx.heap[wy.heap.size]? = some (.cells #[u, .int .i64 (foldC L (bests L y) ((y + 1 : Nat) : Int) i).2] 58 (0, 0)) ∧ KOwn wx (gF + 1) u (foldC L (bests L y) ((y + 1 : Nat) : Int) i).1 ∧ Ext wy wx) (fun t76 _ => n - (intOf t76).toNat)
            case atStart => exact ⟨0, _, rfl, Nat.zero_le _, HBI.out, HK0.out, HXI.out⟩
            case round =>
              obtain ⟨i, u, rfl, hin, hbx, hux, hxi⟩ := hrel
              have HBX := Lib.hid hbx
              have HUX := Lib.hid hux
              have HXY := Lib.hid hxi
              clear hbx hux hxi
              by_cases hil : i < n
              · obtain ⟨m, hm⟩ : ∃ m, L[i]? = some m := ⟨_, List.getElem?_eq_getElem (by rw [← HN.out]; exact hil)⟩
                have hsm := Ren.best_small HKB.out y
                have hfs := Ren.fold_small HKB.out hsm i (by rw [← HN.out]; omega)
                have hcs := Ren.cand_small HKB.out hm hsm
                obtain ⟨l1, l2⟩ := HKB.out.life i m hm
                obtain ⟨q1, q2⟩ := HKB.out.cost i m hm
                have hce := Ren.cand_eq (y := y) hm l1
                have hbk := Ren.back_le (y := y) l1
                have hst := Ren.foldC_succ L (bests L y) ((y + 1 : Nat) : Int) i
                unfold Ren.stepC at hst
                obtain ⟨bb, o, rfl, m0, m1⟩ := (H1.out.ext (HXR.out.trans HXY.out)).at_ hm
                obtain ⟨uv, e0, e1, huv⟩ := (HT.out.ext HXY.out).cells (Ren.bests_some L hbk)
                obtain ⟨A3, c3, hu3, _, _, hc33, hsl⟩ := own_sl5 huv
                have hs3 := hsm _ hbk
                have hbi : ((Ren.backF y m.1 : Nat) : Int) = max (((y + 1 : Nat) : Int) - m.1) 0 := by unfold Ren.backF; rw [Int.toNat_of_nonneg (by omega)]
                obtain ⟨bk, hbke⟩ : ∃ bk, bk = Ren.backF y m.1 := ⟨_, rfl⟩
                obtain ⟨lf, co⟩ := m
                simp only at l1 l2 q1 q2 hce hbk m0 m1 e0 e1 huv hu3 hsl hs3 hbi hbke
                rw [← hbke] at hce hbk e0 e1 huv hu3 hsl hs3 hbi
                obtain ⟨Z, hZ⟩ : ∃ Z, Z = bestAt L bk := ⟨_, rfl⟩
                rw [← hZ] at hce e1 huv hu3 hsl hs3
                clear hbke
                obtain ⟨K3, c4⟩ := Z
                simp only at hce e1 huv hu3 hsl
                subst hu3
                have hk3 := hs3.len
                simp only at hk3
                have hk1000 : K3.length ≤ 2000 := by omega
                have htop := hs3.top
                have hlow := hs3.low
                simp only at htop hlow
                have HSR := Lib.hid (fun (W : World) (x : Ext wr W) => Search_c A3 K3 c3 (i : Int) W hk1000 (SlC.ext hsl x) hs3.sorted)
                have HCL := Lib.hid (fun (W : World) (x : Ext wr W) => CloneI_c A3 K3 c3 W hk1000 (SlC.ext hsl x) hc33)
                obtain ⟨hp1, hp2⟩ := ins_count (i : Int) K3 hs3.sorted
                have HIN := Lib.hid (fun (w5 W : World) (vc : Value) (vb : Nat) (x : Ext w5 W) (hB : gF + 1 ≤ w5.heap.size) (a1 : W.ownsRow w5.heap.size 3 1 vc K3.length (K3.map (Value.int .i64))) (a2 : W.heap[vb]? = some (.cells #[.int .i64 (i : Int)] 3 (0, 0))) (a3 : vc.ownBlock ≠ some vb) =>
                  (insI_c w5.heap.size vc K3 (i : Int) (K3.countP (· < (i : Int))) hp1 W a1 hk1000 vb a2 a3 x.size).mono (fun e w' h => insKeep (KN := Ren.ins (i : Int) K3) (B := gF + 1) x hB a1 (by rw [hp2] at h; exact h)))
                obtain ⟨p, hp⟩ : ∃ p, p = K3.countP (· < (i : Int)) := ⟨_, rfl⟩
                rw [← hp] at HSR HIN hp1
                obtain ⟨kl, hkl⟩ : ∃ kl, kl = K3.length := ⟨_, rfl⟩
                rw [← hkl] at HSR HIN HCL hp1 hk3 hk1000 e0
                have HKL := Lib.hid hkl
                obtain ⟨KN, hKN⟩ : ∃ KN, KN = Ren.ins (i : Int) K3 := ⟨_, rfl⟩
                rw [← hKN] at HIN hce
                have hcl := hcs.len
                have HCE := Lib.hid hce
                have HST := Lib.hid hst
                have HFS := Lib.hid hfs
                rw [hce] at hcl
                simp only at hcl
                have wco : IntKind.i64.wrap (c4 + co) = c4 + co := IntWalk.i64_in _ (by omega)
                have wyl : IntKind.i64.wrap (((y + 1 : Nat) : Int) - lf) = ((y + 1 : Nat) : Int) - lf := IntWalk.i64_in _ (by omega)
                clear hst hfs hcs hce huv hsl hs3 hp2 hp hkl hKN hm hsm
                have hbi2 : bk = (max ((y : Int) + 1 - lf) 0).toNat := by omega
                rw [hbi2] at e0 e1
                have e0a := ((Ext.refl wr).alloc (.cells #[.int .i64 lf, .int .i64 co] 55)).cell e0
                have e1a := ((Ext.refl wr).alloc (.cells #[.int .i64 lf, .int .i64 co] 55)).cell e1
                clear hbi hbi2 e0 e1
                go_upto_region 22 with (fail)
                have HX2 := Lib.hid (((Ext.refl wr).alloc (.cells #[.int .i64 lf, .int .i64 co] 55)).alloc (.cells #[.slice A3 kl c3, .int .i64 c4] 58))
                have HA13 := Lib.hid (ext_heap ((Ext.refl (wr.alloc (.cells #[.int .i64 lf, .int .i64 co] 55))).alloc (.cells #[.slice A3 kl c3, .int .i64 c4] 58)) (heap_alloc_new wr (.cells #[.int .i64 lf, .int .i64 co] 55)))
                have ha14 := heap_alloc_new (wr.alloc (.cells #[.int .i64 lf, .int .i64 co] 55)) (.cells #[.slice A3 kl c3, .int .i64 c4] 58)
                have hsz : (wr.alloc (.cells #[.int .i64 lf, .int .i64 co] 55)).heap.size = wr.heap.size + 1 := by simp
                rw [hsz] at ha14
                have HA14 := Lib.hid ha14
                have HGR : Hid (gF + 1 ≤ wr.heap.size) := Lib.hid (by
                  have h1 := (Array.getElem?_eq_some_iff.1 HBR.out).1
                  have h2 := HXY.out.size
                  omega)
                clear ha14 hsz e0a e1a
                obtain ⟨W2, hW2⟩ : ∃ W2, W2 = (wr.alloc (.cells #[.int .i64 lf, .int .i64 co] 55)).alloc (.cells #[.slice A3 kl c3, .int .i64 c4] 58) := ⟨_, rfl⟩
                rw [← hW2] at HX2 HA13 HA14 ⊢
                clear hW2
                have k0 := blk_cell HA14.out 0
                have k0' : W2.cell? ⟨wr.heap.size + 1, 0, none⟩ = some (.slice A3 kl c3) := k0
                clear k0
                go_upto_region 23 with (go_at_call 29; refine (HSR.out _ HX2.out).mono ?_; rintro e w5 ⟨bb2, rfl, hx5⟩; have HX5 := Lib.hid (HX2.out.trans hx5); have HA15 := Lib.hid (ext_heap hx5 HA14.out); have HA16 := Lib.hid (ext_heap hx5 HA13.out); clear hx5)
                clear k0'
                have HSG : Hid (wr.heap.size ≤ w5.heap.size) := Lib.hid HX5.out.size
                have k0 : w5.cell? ⟨wr.heap.size + 1, 0, none⟩ = some (.slice A3 kl c3) := blk_cell HA15.out 0
                have k1 : w5.cell? ⟨wr.heap.size + 1, 1, none⟩ = some (.int .i64 c4) := blk_cell HA15.out 1
                have k2 : w5.cell? ⟨wr.heap.size, 1, none⟩ = some (.int .i64 co) := blk_cell HA16.out 1
                go_cut [17] (fun s17 wx => ∃ (g17 : Nat) (v2 : Value), s17 = .pointer (some ⟨g17, 0, none⟩) ∧ wx.heap[g17]? = some (.cells #[v2, .int .i64 (c4 + co)] 58 (0, 0)) ∧ KOwn wx (gF + 1) v2 KN ∧ Ext wr wx ∧ wr.heap.size ≤ g17)
                case first =>
                  have rbs := run_buildSlice_i (i : Int)
                  have HGS : Hid (gF + 1 ≤ w5.heap.size) := Lib.hid (by have := HGR.out; have := HSG.out; omega)
                  go_region_held3 (fun w' => w'.cell? ⟨wr.heap.size + 1, 0, none⟩ = some (.slice A3 kl c3) ∧ w'.cell? ⟨wr.heap.size + 1, 1, none⟩ = some (.int .i64 c4) ∧ w'.cell? ⟨wr.heap.size, 1, none⟩ = some (.int .i64 co))
                    (first | exact ⟨k0, k1, k2⟩ | (refine keep3 k0 k1 k2 ?_; repeat (first | exact Ext.refl _ | exact HX7.out | exact HX6.out | apply Ext.drew | apply Ext.alloc | (refine Ext.setCell ?_ (by have h6 := HX6.out.size; have h7 := HX7.out.size; (try dsimp only); (try simp only [World.size_alloc]); omega) _))))
                    (first
                      | (go_at_call 31; refine (HCL.out _ (HX5.out.trans (by repeat (first | exact Ext.refl _ | apply Ext.drew | apply Ext.alloc)))).mono ?_; rintro e w6 ⟨v6, rfl, ho6, hx6⟩; have HO6 := Lib.hid ho6; have HX6 : Hid (Ext w5 w6) := Lib.hid (Ext.trans (by repeat (first | exact Ext.refl _ | apply Ext.drew | apply Ext.alloc)) hx6); have HY6 := Lib.hid hx6; clear ho6 hx6)
                      | (go_at_call 30; refine (HIN.out w5 _ v6 _ (by repeat (first | exact Ext.refl _ | exact HX6.out | apply Ext.drew | apply Ext.alloc)) HGS.out (town_base (town_ext HO6.out (by repeat (first | exact Ext.refl _ | apply Ext.drew | apply Ext.alloc))) (by first | exact Nat.le_refl _ | (simp; done) | (simp; omega))) (by first | exact heap_alloc_new _ _ | exact heap_new2 _ _ _ | exact ext_heap HY6.out (heap_new2 _ _ _) | exact ext_heap (Ext.alloc (Ext.refl _) _) (heap_alloc_new _ _) | exact ext_heap HY6.out (heap_alloc_new _ _) | exact ext_heap (HY6.out.alloc _) (heap_alloc_new _ _) | exact ext_heap HY6.out (ext_heap (Ext.alloc (Ext.refl _) _) (heap_alloc_new _ _))) (fun q => by have h1 := own_lt HO6.out q; (try simp at h1) <;> omega)).mono ?_; rintro e w7 ⟨A7, c7, rfl, hk7, hx7, hq7⟩; have rbc := run_build_ch A7 KN.length c7 (c4 + co); have HK7 := Lib.hid hk7; have HX7 := Lib.hid hx7;
                          first
                            | (have hb17 := hq7 _ _ (heap_alloc_new _ (.cells #[.slice none 0 0, .int .i64 0] 58)); (try simp only [World.size_alloc] at hb17); have HB17 := Lib.hid hb17; obtain ⟨d0, d1, f0, f1⟩ := ch2_mk hb17; clear hb17)
                            | (have hb17 := hq7 _ _ (ext_heap (Ext.alloc (Ext.refl _) _) (heap_alloc_new _ (.cells #[.slice none 0 0, .int .i64 0] 58))); (try simp only [World.size_alloc] at hb17); have HB17 := Lib.hid hb17; obtain ⟨d0, d1, f0, f1⟩ := ch2_mk hb17; clear hb17)
                            | (have hb17 := hq7 _ _ (ext_heap HY6.out (heap_alloc_new _ (.cells #[.slice none 0 0, .int .i64 0] 58))); (try simp only [World.size_alloc] at hb17); have HB17 := Lib.hid hb17; obtain ⟨d0, d1, f0, f1⟩ := ch2_mk hb17; clear hb17)
                            | (have hb17 := hq7 _ _ (ext_heap (HY6.out.alloc _) (heap_alloc_new _ (.cells #[.slice none 0 0, .int .i64 0] 58))); (try simp only [World.size_alloc] at hb17); have HB17 := Lib.hid hb17; obtain ⟨d0, d1, f0, f1⟩ := ch2_mk hb17; clear hb17)
                            | (have hb17 := hq7 _ _ (ext_heap HY6.out (ext_heap (Ext.alloc (Ext.refl _) _) (heap_alloc_new _ (.cells #[.slice none 0 0, .int .i64 0] 58)))); (try simp only [World.size_alloc] at hb17); have HB17 := Lib.hid hb17; obtain ⟨d0, d1, f0, f1⟩ := ch2_mk hb17; clear hb17)
                            | skip))
                  all_goals try go_wp2
                  all_goals go_meet
                  all_goals first
                    | (have C := cand_fin (wr := wr) (d := c4 + co) HB17.out HK7.out (HX5.out.trans HX7.out) (by have h6 := HX6.out.size; have h7 := HSG.out; omega); exact ⟨_, _, rfl, C.1, C.2.1, C.2.2, by have h6 := HX6.out.size; have h7 := HSG.out; omega⟩)
                    | exact ⟨_, _, rfl, heap_alloc_new w7 _, HK7.out.ext ((Ext.refl w7).alloc _), (HX5.out.trans HX7.out).alloc _, by have h6 := HX7.out.size; have h7 := HSG.out; omega⟩
                obtain ⟨g17, v2, rfl, hb17, hk17, hx17, hg17⟩ := hcut
                obtain ⟨wq, rfl⟩ : ∃ wq : World, wq = wc := ⟨_, rfl⟩
                have HB17 := Lib.hid hb17
                have HK17 := Lib.hid hk17
                have HX17 := Lib.hid hx17
                have HYQ := Lib.hid (HXY.out.trans hx17)
                have HBQ := Lib.hid (ext_heap hx17 HBX.out)
                have HUQ := Lib.hid (HUX.out.ext hx17)
                obtain ⟨A2, c2, rfl, _, _, _, hsl2⟩ := own_sl5 hk17
                obtain ⟨Au, cu, rfl, _, _, _, hslu⟩ := own_sl5 HUQ.out
                have hfs := HFS.out
                have hst := HST.out
                rw [HCE.out] at hst
                obtain ⟨X, hX⟩ : ∃ X, X = foldC L (bests L y) ((y + 1 : Nat) : Int) i := ⟨_, rfl⟩
                rw [← hX] at HBQ HUQ hfs hst hslu
                clear hX hb17 hk17 hx17 HFS HST HCE HBX HUX HSR HCL HIN k0 k1 k2 HX5 HA15 HA16 HSG HX2 HA13 HA14 hg17
                obtain ⟨XK, xc⟩ := X
                have hxl := hfs.len
                simp only at HBQ HUQ hslu hxl
                have HBT := Lib.hid (fun (W : World) (x : Ext wq W) => better_c A2 Au KN XK (c4 + co) xc c2 cu W (by omega) (by omega) (SlC.ext hsl2 x) (SlC.ext hslu x))
                obtain ⟨cN, hcN⟩ : ∃ cN, cN = c4 + co := ⟨_, rfl⟩
                obtain ⟨kn, hkn⟩ : ∃ kn, kn = KN.length := ⟨_, rfl⟩
                obtain ⟨xl, hxle⟩ : ∃ xl, xl = XK.length := ⟨_, rfl⟩
                rw [← hcN] at HB17 hst HBT
                rw [← hkn] at HB17 HK17 HBT
                rw [← hxle] at HBQ HUQ HBT
                obtain ⟨d0, d1, f0, f1⟩ := ch2_mk HB17.out
                obtain ⟨b0, b1, n0, n1⟩ := ch2_mk HBQ.out
                have HST := Lib.hid hst
                clear hst hfs hsl2 hslu hcN hkn hxle wco wyl hcl hxl
                have HFA := Lib.hid (fun (K2 : List Int) (x2 : Int) (e : foldC L (bests L y) ((y + 1 : Nat) : Int) (i + 1) = (K2, x2)) (v : Value) (W : World) (h1 : W.heap[wy.heap.size]? = some (.cells #[v, .int .i64 x2] 58 (0, 0))) (h2 : KOwn W (gF + 1) v K2) (h3 : Ext wy W) =>
                  (show ∃ u, W.heap[wy.heap.size]? = some (.cells #[u, .int .i64 (foldC L (bests L y) ((y + 1 : Nat) : Int) (i + 1)).2] 58 (0, 0)) ∧ KOwn W (gF + 1) u (foldC L (bests L y) ((y + 1 : Nat) : Int) (i + 1)).1 ∧ Ext wy W from ⟨v, by rw [e]; exact h1, by rw [e]; exact h2, h3⟩))
                have HTK : Hid (∀ W, Ext wq W → i = 0 ∨ Ren.betB (KN, cN) (XK, xc) = true → ∃ u, ((W.setCell ⟨wy.heap.size, 0, none⟩ (.slice A2 kn c2)).setCell ⟨wy.heap.size, 1, none⟩ (.int .i64 cN)).heap[wy.heap.size]? = some (.cells #[u, .int .i64 (foldC L (bests L y) ((y + 1 : Nat) : Int) (i + 1)).2] 58 (0, 0)) ∧ KOwn ((W.setCell ⟨wy.heap.size, 0, none⟩ (.slice A2 kn c2)).setCell ⟨wy.heap.size, 1, none⟩ (.int .i64 cN)) (gF + 1) u (foldC L (bests L y) ((y + 1 : Nat) : Int) (i + 1)).1 ∧ Ext wy ((W.setCell ⟨wy.heap.size, 0, none⟩ (.slice A2 kn c2)).setCell ⟨wy.heap.size, 1, none⟩ (.int .i64 cN))) := Lib.hid (fun W x hor => by
                  have C := cand_fin (wr := wy) (d := cN) (ext_heap x HBQ.out) (HK17.out.ext x) (HYQ.out.trans x) (Nat.le_refl _)
                  exact HFA.out KN cN (by rw [HST.out, if_pos hor]) _ _ C.1 C.2.1 C.2.2)
                have HNT : Hid (∀ W, Ext wq W → ¬ (i = 0 ∨ Ren.betB (KN, cN) (XK, xc) = true) → ∃ u, W.heap[wy.heap.size]? = some (.cells #[u, .int .i64 (foldC L (bests L y) ((y + 1 : Nat) : Int) (i + 1)).2] 58 (0, 0)) ∧ KOwn W (gF + 1) u (foldC L (bests L y) ((y + 1 : Nat) : Int) (i + 1)).1 ∧ Ext wy W) := Lib.hid (fun W x hor => HFA.out XK xc (by rw [HST.out, if_neg hor]) _ _ (ext_heap x HBQ.out) (HUQ.out.ext x) (HYQ.out.trans x))
                clear HFA HST HXY HX17
                by_cases hi0 : i = 0
                · subst hi0
                  have HR := Lib.hid (HTK.out wq (Ext.refl wq) (.inl rfl))
                  go_wp2
                  go_roundw
                  case rel => obtain ⟨u2, r1, r2, r3⟩ := HR.out; first | exact ⟨0 + 1, u2, by go_num, hil, r1, r2, r3⟩ | exact ⟨_, _, _, _, _, _, _, ⟨0 + 1, by go_num, hil, u2, r1, r2, r3⟩, rfl, rfl, rfl, rfl, rfl, rfl, rfl⟩
                  case measure => simp [intOf]; omega
                · have q0 : ((i : Int) == 0) = false := by simp; omega
                  cases hbt : Ren.betB (KN, cN) (XK, xc) with
                  | true =>
                    rw [hbt] at HBT
                    have HTK2 := Lib.hid (fun W x => HTK.out W x (.inr hbt))
                    clear hbt HTK HNT
                    have HBQ2 := Lib.hid (fun (W : World) (x : Ext wq W) => ch2_mk (ext_heap x HBQ.out))
                    have HB172 := Lib.hid (fun (W : World) (x : Ext wq W) => ch2_mk (ext_heap x HB17.out))
                    go_wp2_with (go_at_call 32; refine (HBT.out _ (Ext.refl wq)).mono ?_; rintro e w8 ⟨rfl, hx8⟩; have HX8 := Lib.hid hx8; obtain ⟨p0, p1, o0, o1⟩ := HBQ2.out w8 hx8; obtain ⟨r0, r1, m0, m1⟩ := HB172.out w8 hx8; clear hx8)
                    have HR := Lib.hid (HTK2.out w8 HX8.out)
                    go_roundw
                    case rel => obtain ⟨u2, r1, r2, r3⟩ := HR.out; first | exact ⟨i + 1, u2, by go_num, hil, r1, r2, r3⟩ | exact ⟨_, _, _, _, _, _, _, ⟨i + 1, by go_num, hil, u2, r1, r2, r3⟩, rfl, rfl, rfl, rfl, rfl, rfl, rfl⟩
                    case measure => simp [intOf]; omega
                  | false =>
                    rw [hbt] at HBT
                    have HNT2 := Lib.hid (fun W x => HNT.out W x (by rintro (q | q); exact hi0 q; rw [hbt] at q; cases q))
                    clear hbt HTK HNT
                    go_wp2_with (go_at_call 32; refine (HBT.out _ (Ext.refl wq)).mono ?_; rintro e w8 ⟨rfl, hx8⟩; have HX8 := Lib.hid hx8; clear hx8)
                    have HR := Lib.hid (HNT2.out w8 HX8.out)
                    go_roundw
                    case rel => obtain ⟨u2, r1, r2, r3⟩ := HR.out; first | exact ⟨i + 1, u2, by go_num, hil, r1, r2, r3⟩ | exact ⟨_, _, _, _, _, _, _, ⟨i + 1, by go_num, hil, u2, r1, r2, r3⟩, rfl, rfl, rfl, rfl, rfl, rfl, rfl⟩
                    case measure => simp [intOf]; omega
              · have hie : i = n := by omega
                have hXe : foldC L (bests L y) ((y + 1 : Nat) : Int) i = bestAt L (y + 1) := by rw [Ren.best_step, hie, HN.out]
                have HXE := Lib.hid hXe
                obtain ⟨A2, c2, hu2, _, _, _, _⟩ := own_sl5 HUX.out
                obtain ⟨X, hX⟩ : ∃ X, X = foldC L (bests L y) ((y + 1 : Nat) : Int) i := ⟨_, rfl⟩
                rw [← hX] at HBX HUX HXE hu2
                clear hXe hX
                obtain ⟨K, cc⟩ := X
                simp only at HBX HUX hu2
                obtain ⟨kl, hkl⟩ : ∃ kl, kl = K.length := ⟨_, rfl⟩
                rw [← hkl] at hu2
                subst hu2
                clear hkl
                obtain ⟨d0, d1, f0, f1⟩ := ch2_mk HBX.out
                obtain ⟨xs, xs1, xs2, xs3⟩ := HT.out.row
                have XA : Ext wy (wr.alloc (.cells #[.slice A2 kl c2, .int .i64 cc] 58)) := HXY.out.alloc _
                have HXS3 : Hid (∀ (k : Nat) (c : Ren.Choice), (bests L y)[k]? = some c → ∃ u, xs[k]? = some (u, .int .i64 c.2) ∧ KOwn (wr.alloc (.cells #[.slice A2 kl c2, .int .i64 cc] 58)) (gF + 1) u c.1) := Lib.hid (fun k c hk => by obtain ⟨u, a, b⟩ := xs3 k c hk; exact ⟨u, a, b.ext XA⟩)
                have HXS1 := Lib.hid xs1
                have HOW := Lib.hid (town_ext xs2 XA)
                have HOW2 := HOW
                rw [HBL.out] at HOW
                have HUA := Lib.hid (HUX.out.ext ((Ext.refl wr).alloc (.cells #[.slice A2 kl c2, .int .i64 cc] 58)))
                have HXA := Lib.hid XA
                have rbs := run_buildSlice_ch A2 kl c2 cc
                obtain ⟨ir, hi, hz0, hz1, hz2⟩ := info_parts infoCh
                have HI := Lib.hid hi
                have HZ0 := Lib.hid hz0
                have HZ1 := Lib.hid hz1
                have HZ2 := Lib.hid hz2
                have HB1 : Hid (y + 1 + 1 ≤ maxLen) := Lib.hid (by unfold maxLen; omega)
                have HB2 : Hid ((y + 1 + 1) * 32 ≤ 140737488355328) := Lib.hid (by omega)
                have HSZ2 : Hid (gF + 1 ≤ (wr.alloc (.cells #[.slice A2 kl c2, .int .i64 cc] 58)).heap.size) := Lib.hid (by
                  have h1 := (Array.getElem?_eq_some_iff.1 HBR.out).1
                  have h2 := XA.size
                  omega)
                have HONE : Hid (∀ v ∈ ([.slice A2 kl c2, .int .i64 cc] : List Value), v.oneCell' = true) := Lib.hid (by
                  intro v hv
                  rcases List.mem_cons.1 hv with rfl | hv
                  · rfl
                  · rw [List.mem_singleton.1 hv]; rfl)
                clear xs1 xs2 xs3 XA hi hz0 hz1 hz2 hie
                go_wp2_with (first | (at_builtin; refine wpList_append_sl rfl _ _ 59 rfl (gF + 1) 58 ir _ 2 32 Try.underlying59 HI.out HZ0.out HZ1.out HZ2.out rfl (by decide) (.slice (some ⟨g9, 0, none⟩) (y + 1) cap9) (y + 1) (pvs xs) rfl HOW.out (some ⟨wr.heap.size, 0, none⟩) 1 1 [.slice A2 kl c2, .int .i64 cc] rfl (slc_at rfl [.slice A2 kl c2, .int .i64 cc]) rfl HONE.out HB1.out HB2.out HSZ2.out ?_; intro v5 w5 ho5 hg5 ha5; have HO5 := Lib.hid ho5; have HG5 := Lib.hid hg5; clear ho5 hg5 ha5))
                have hgl : ∀ g, (Value.slice (some ⟨g9, 0, none⟩) (y + 1) cap9).ownBlock = some g → gF + 1 ≤ g := fun g q => (own_lt HOW.out q).1
                have HGL := Lib.hid hgl
                have HTN : Hid (TabIs w5 (gF + 1) v5 (bests L (y + 1))) := Lib.hid (by
                  rw [Ren.bests_snoc, ← Ren.best_step, ← HXE.out]
                  exact tab_snoc HXS1.out (by rw [HBL.out]; exact HOW.out) HXS3.out HUA.out (by rw [HBL.out]; exact HO5.out) HG5.out)
                have HBN : Hid (w5.heap[gF]? = some (.cells #[.int .i64 0, .int .i64 0] 26 (0, 0))) := Lib.hid (by
                  have h1 := ext_heap HXA.out HBR.out
                  rw [HG5.out.block gF (Array.getElem?_eq_some_iff.1 h1).1 (fun q => by have := HGL.out gF q.symm; omega)]
                  exact h1)
                have HXN : Hid (Ext w w5) := Lib.hid (ext_grown (HXR.out.trans HXA.out) HG5.out (fun g q => by have := HGL.out g q; have := HGF.out; omega))
                clear hgl
                go_roundw
                case rel => exact ⟨y + 1, by go_num, hyl, HTN.out, HBN.out, HXN.out⟩
                case measure => simp [intOf]; omega
          · have hye : y = N := by omega
            subst hye
            obtain ⟨g9, cap9, u, rfl, d0, d1, hu⟩ := HT.out.get (Ren.bests_some L (Nat.le_refl y))
            have HU := Lib.hid hu
            obtain ⟨A2, c2, hu2, hc1, hc2, _, hsl⟩ := own_sl5 hu
            have HC1 := Lib.hid hc1
            have HC2 := Lib.hid hc2
            have HSL := Lib.hid hsl
            rw [HBL.out]
            have HE : Hid (∀ W, Ext wr W → CheapRet w L (y : Int) (.returned (.tuple #[.slice A2 (bestAt L y).1.length c2, .int .i64 (bestAt L y).2, .agg #[.int .i64 0, .int .i64 0]])) W) := Lib.hid (fun W x => ⟨HXR.out.trans x, .inr ⟨HFF.out, A2, c2, by rw [Int.toNat_natCast]; rfl, by rw [Int.toNat_natCast]; exact SlC.ext HSL.out x, by rw [Int.toNat_natCast]; exact HC1.out, HC2.out⟩⟩)
            have hbl1 : (bestAt L y).1.length ≤ 1000 := Nat.le_trans (Ren.best_small HKB.out y y (Nat.le_refl _)).len (by omega)
            obtain ⟨X, hX⟩ : ∃ X, X = bestAt L y := ⟨_, rfl⟩
            rw [← hX] at d1 hu2 HE hbl1
            clear hX hu hc1 hc2 hsl
            obtain ⟨K, cc⟩ := X
            obtain ⟨kl, hkl⟩ : ∃ kl, kl = K.length := ⟨_, rfl⟩
            simp only at d1 hu2 HE hbl1
            rw [← hkl] at hu2 HE hbl1
            subst hu2
            clear hkl
            have rbf := run_build_f
            obtain ⟨e0, e1, f0, f1⟩ := Blk2.mk' HBR.out
            go_upto_region 28 with (fail)
            go_wp2
            go_region
            all_goals go_wp2
            all_goals exact bodyPost_ret (results_ttc Try.results21 _ _ gF 26 #[.int .i64 0, .int .i64 0] (0, 0) _ rfl (fblk_set HBR.out) Try.underlying26 rfl sizeF) rfl (HE.out _ (Ext.drew (ext_same HBR.out)))
    · have HFF : Hid (faultK L y = (4, -2)) := Lib.hid (by rw [HF2.out, if_pos (by simp [inB]; omega)])
      have HE : Hid (∀ W, Ext w W → CheapRet w L y (.returned (.tuple #[.slice none 0 0, .int .i64 0, .agg #[.int .i64 4, .int .i64 (-2)]])) W) := Lib.hid (fun W x => ⟨x, .inl ⟨by rw [HFF.out]; intro q; injection q with q _; omega, by rw [HFF.out]; rfl⟩⟩)
      have X3 : Ext wr (wr.alloc (.cells #[.int .i64 4, .int .i64 (-2)] 26)) := (Ext.refl wr).alloc _
      have HZB := Lib.hid (ext_heap X3 HB.out)
      have HXR := Lib.hid (HX.out.trans X3)
      clear X3
      by_cases hy0 : y < 0
      · clear hy
        go_wp2_with (first | (go_at_call 25; refine (tfault_c _ _ _).mono ?_; rintro e w' ⟨rfl, rfl⟩) | refine wpList_store_row rfl 26 _ _ rfl w.heap.size #[.int .i64 4, .int .i64 (-2)] rfl rfl 26 _ HZB.out sizeF rfl (by kernel_rfl) ?_)
        exact bodyPost_ret (results_ttc Try.results21 _ _ w.heap.size 26 #[.int .i64 4, .int .i64 (-2)] (0, 0) _ rfl (setRow_heap _ _ _ _ _ _ HZB.out) Try.underlying26 rfl sizeF) rfl (HE.out _ (HXR.out.setRow (Nat.le_refl _) _))
      · have hy1 : 1000 < y := by omega
        clear hy
        go_wp2_with (first | (go_at_call 25; refine (tfault_c _ _ _).mono ?_; rintro e w' ⟨rfl, rfl⟩) | refine wpList_store_row rfl 26 _ _ rfl w.heap.size #[.int .i64 4, .int .i64 (-2)] rfl rfl 26 _ HZB.out sizeF rfl (by kernel_rfl) ?_)
        exact bodyPost_ret (results_ttc Try.results21 _ _ w.heap.size 26 #[.int .i64 4, .int .i64 (-2)] (0, 0) _ rfl (setRow_heap _ _ _ _ _ _ HZB.out) Try.underlying26 rfl sizeF) rfl (HE.out _ (HXR.out.setRow (Nat.le_refl _) _))
end Go.Proofs.Ytnijfndpefkoeaa
