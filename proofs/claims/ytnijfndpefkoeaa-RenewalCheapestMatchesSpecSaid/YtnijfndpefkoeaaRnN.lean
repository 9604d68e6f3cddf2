import Derived.Test.YtnijfndpefkoeaaRnL
namespace Go.Proofs.Ytnijfndpefkoeaa
open Go Go.Proofs Go.RowKit
open Ren (E lessE atE swapE UpAt DnAt DnIs Heap Qs YAt YIn YPush pyOf planF begL)
set_option maxHeartbeats 12800000
set_option maxRecDepth 100000
theorem sizeM : (Try.prog.info? 23).map (·.size) = some 2 := by kernel_rfl
/-- What plan returns. -/
def PlanRet (w : World) (r : Option (List Int)) (e : Ending) (w' : World) : Prop :=
  match r with
  | none => e = .returned (.tuple #[.slice none 0 0, .bool false]) ∧ Ext w w'
  | some ys => ∃ A c, e = .returned (.tuple #[.slice A ys.length c, .bool true]) ∧ Sl w' .i64 A ys ∧ ys.length ≤ c ∧ c ≤ maxLen ∧ Ext w w'
theorem run_build_op (a b : Int) (w : World) : (Instr.build 70 #[(0, .int .i64 a), (1, .int .i64 b)]).run Try.prog w = .ok (.agg #[.int .i64 a, .int .i64 b]) w := by kernel_rfl
theorem run_buildSlice_op (a b : Int) (w : World) : (Instr.buildSlice 68 1 #[(0, .agg #[.int .i64 a, .int .i64 b])]).run Try.prog w = .ok (.slice (some ⟨w.heap.size, 0, none⟩) 1 1) (w.alloc (.cells #[.int .i64 a, .int .i64 b] 70)) := by kernel_rfl
theorem plan_c (A : Option Addr) (L : List (Int × Int)) (c p : Nat) (w : World) (hl : L.length ≤ 60) (h1 : Prs w A L) (hok : ∀ q ∈ L, okM q = true) (hp : 1 ≤ p) (hp2 : p ≤ 60) : Calls Try.prog 28 #[.slice A L.length c, .int .i64 (p : Int)] w (PlanRet w (planF (wsF L) p)) := by
  have H1 := Lib.hid h1
  have HOK := Lib.hid hok
  have hws := ws_len L
  have HWS := Lib.hid hws
  have HO2 := Lib.hid (ws_ok hok)
  obtain ⟨ws, hwsd⟩ : ∃ ws, ws = wsF L := ⟨_, rfl⟩
  have HWD := Lib.hid hwsd
  rw [← hwsd] at HWS HO2 ⊢
  obtain ⟨R, hR⟩ : ∃ R, R = planF ws p := ⟨_, rfl⟩
  have HR := Lib.hid hR
  rw [← hR]
  obtain ⟨n, hn⟩ : ∃ n, n = L.length := ⟨_, rfl⟩
  have HN := Lib.hid hn
  rw [← hn] at hl HWS ⊢
  clear h1 hok hws hwsd hR hn
  go_enter Try.func28, Try.ntmps28
  go_upto_region 1 with (fail)
  go_cut [6] (fun s6 wx => s6 = .slice (some ⟨w.heap.size, 0, none⟩) n n ∧ wx.heap[w.heap.size]? = some (.cells (zeroRow n) 3 (0, 0)) ∧ Ext w wx ∧ wx.heap.size = w.heap.size + 1)
  case first =>
    have hmk := make_runT w n (by omega)
    go_wp2
    go_meet
    exact ⟨rfl, heap_alloc_new w _, (Ext.refl w).alloc _, by show (w.heap.push _).size = _; rw [Array.size_push]⟩
  obtain ⟨rfl, hy, hxa, hsz⟩ := hcut
  obtain ⟨wa, rfl⟩ : ∃ wa : World, wa = wc := ⟨_, rfl⟩
  have HYA := Lib.hid hy
  have HXA := Lib.hid hxa
  have HSZ := Lib.hid hsz
  clear hy hxa hsz
  go_upto_region 2 with (fail)
  go_cut [7] (fun s7 wx => s7 = .map (some wa.heap.size) ∧ wx = wa.alloc (.map #[] 0))
  case first =>
    have hmm := @run_makeMap_plain Try.prog
    go_wp2
    go_meet
    exact ⟨rfl, rfl⟩
  obtain ⟨rfl, rfl⟩ := hcut
  have HBG := Lib.hid (beg_zero wa ws)
  have HXB := Lib.hid (HXA.out.alloc (.map #[] 0))
  have HYB := Lib.hid (ext_heap ((Ext.refl wa).alloc (.map #[] 0)) HYA.out)
  obtain ⟨gB, hgB⟩ : ∃ gB, gB = wa.heap.size := ⟨_, rfl⟩
  obtain ⟨gY, hgY⟩ : ∃ gY, gY = w.heap.size := ⟨_, rfl⟩
  obtain ⟨wb, hwb⟩ : ∃ wb, wb = wa.alloc (.map #[] 0) := ⟨_, rfl⟩
  rw [← hgB, ← hwb] at HBG
  rw [← hwb] at HXB HYB
  rw [← hgY] at HYB
  rw [← hgB, ← hgY, ← hwb]
  have hyb : gB = gY + 1 := by have := HSZ.out; omega
  have HYBE := Lib.hid hyb
  have HGW : Hid (w.heap.size ≤ gY) := Lib.hid (by omega)
  clear hwb hgB hgY HYA HXA HSZ hyb
  go_upto_region 4 with (fail)
  go_loopw [25] (fun t25 wx => ∃ (i : Nat) (val : Int → Option Value), t25 = .int .i64 (i : Int) ∧ i ≤ n ∧ BegIs wx (gB + 1) gB ws i val ∧ wx.heap[gY]? = some (.cells (zeroRow n) 3 (0, 0)) ∧ Ext w wx) (fun t25 _ => n - (intOf t25).toNat)
  case atStart => exact ⟨0, _, rfl, Nat.zero_le _, HBG.out, HYB.out, HXB.out⟩
  case round =>
    obtain ⟨i, val, rfl, hin, hbg, hyr, hxr⟩ := hrel
    have HBI := Lib.hid hbg
    have HYR := Lib.hid hyr
    have HXR := Lib.hid hxr
    have hsz : gB < wr.heap.size := hbg.map.lt
    clear hbg hyr hxr
    by_cases hlt : i < n
    · obtain ⟨m, hm⟩ : ∃ m, L[i]? = some m := ⟨_, List.getElem?_eq_getElem (by rw [← HN.out]; exact hlt)⟩
      obtain ⟨bb, o, rfl, m0, m1⟩ := (H1.out.ext HXR.out).at_ hm
      have hmo := HOK.out m (List.mem_of_getElem? hm)
      have hwab := ws_at hm
      rw [← HWD.out] at hwab
      have HWA := Lib.hid hwab.1
      have HWB := Lib.hid hwab.2
      have HWI := Lib.hid (fun (W : World) => window_c m W hmo)
      obtain ⟨fr, to_, hft⟩ : ∃ fr to_, winF m = (fr, to_) := ⟨_, _, rfl⟩
      have HFT := Lib.hid hft
      rw [hft] at HWI HWA HWB
      clear hm hmo hwab hft
      obtain ⟨x0, x1⟩ := m
      simp only at m0 m1 HWI HWA HWB
      go_upto_region 7 with (go_at_call 26; refine (HWI.out _).mono ?_; rintro e w2 ⟨rfl, hx2⟩; have HX2 := Lib.hid hx2; clear hx2)
      obtain ⟨ir, hi, hz0, hz1, hz2⟩ := info_parts infoO
      have HI := Lib.hid hi
      have HZ0 := Lib.hid hz0
      have HZ1 := Lib.hid hz1
      have HZ2 := Lib.hid hz2
      obtain ⟨V, hV⟩ : ∃ V, nilV (val fr) = V := ⟨_, rfl⟩
      have HV := Lib.hid hV
      have HXW : Hid (Ext wr (w2.alloc (.cells #[.int .i64 to_, .int .i64 (i : Int)] 70))) := Lib.hid ((((Ext.refl wr).alloc _).trans HX2.out).alloc _)
      have HBW := Lib.hid (HBI.out.ext HXW.out)
      have HM2 := Lib.hid ((HBI.out.ext (((Ext.refl wr).alloc _).trans HX2.out)).map)
      have HYW := Lib.hid (ext_heap HXW.out HYR.out)
      have HOW := Lib.hid (HBW.out.own fr)
      rw [hV] at HOW
      have hbl : (begTo ws i fr).length ≤ 100 := by
        unfold begTo
        rw [List.length_map]
        exact Nat.le_trans (List.length_filter_le _ _) (by rw [List.length_range]; omega)
      have hsz2 : gB + 1 ≤ (w2.alloc (.cells #[.int .i64 to_, .int .i64 (i : Int)] 70)).heap.size := by have := HXW.out.size; omega
      have HSZ2 := Lib.hid hsz2
      obtain ⟨bl, hble⟩ : ∃ bl, bl = begTo ws i fr := ⟨_, rfl⟩
      have HBLE := Lib.hid hble
      rw [← hble] at HOW hbl
      obtain ⟨ml, hml⟩ : ∃ ml, ml = bl.length := ⟨_, rfl⟩
      have HML := Lib.hid hml
      rw [← hml] at HOW hbl
      have rb := run_build_op to_ (i : Int)
      have rbs := run_buildSlice_op to_ (i : Int)
      have HB1 : Hid (ml + 1 ≤ maxLen) := Lib.hid (by unfold maxLen; omega)
      have HB2 : Hid ((ml + 1) * 16 ≤ 140737488355328) := Lib.hid (by omega)
      clear hi hz0 hz1 hz2 hV hble hml hbl hsz2
      go_wp2_with (first | refine wpList_lookup_i rfl _ _ rfl gB val HM2.out rfl fr rfl V HV.out ?_ | (at_builtin; refine wpList_append_sl rfl _ _ 68 rfl (gB + 1) 70 ir _ 2 16 Try.underlying68 HI.out HZ0.out HZ1.out HZ2.out rfl (by decide) V ml (prsV bl) rfl HOW.out (some ⟨w2.heap.size, 0, none⟩) 1 1 (prV (to_, (i : Int))) rfl (slc_at rfl (prV (to_, (i : Int)))) rfl (prV_one _) HB1.out HB2.out HSZ2.out ?_; intro v5 w5 ho5 hg5 ha5; have HO5 := Lib.hid ho5; have HG5 := Lib.hid hg5; have HA5 := Lib.hid ha5; have HM5 := Lib.hid (beg_map2 (y0 := fr) HBW.out (by rw [HV.out]; exact hg5)); clear ho5 hg5 ha5) | (refine wpList_update_i rfl _ _ _ rfl gB val HM5.out rfl fr rfl v5 rfl ?_; intro w6 hm6; have HM6 := Lib.hid hm6; clear hm6))
      have HN6 := Lib.hid (fill_next (HXR.out.trans HXW.out) HYBE.out HGW.out HYW.out HBW.out HWA.out (by rw [HWB.out, ← HBLE.out, ← HML.out]; exact HO5.out) (by rw [HV.out]; exact HG5.out) (by rw [HV.out]; exact HA5.out) HM6.out)
      go_roundw
      case rel => exact ⟨i + 1, _, by go_num, hlt, HN6.out.1, HN6.out.2.1, HN6.out.2.2⟩
      case measure => simp [intOf]; omega
    · have hie : i = n := by omega
      have HBN : Hid (BegIs wr (gB + 1) gB ws ws.length val) := Lib.hid (by rw [HWS.out, ← hie]; exact HBI.out)
      have hgy : gY < wr.heap.size := by have := HYBE.out; omega
      have HP0 := Lib.hid (pl_start HXR.out HYR.out HGW.out)
      have HLT : Hid (¬ i < n) := Lib.hid hlt
      go_upto_region 9 with (fail)
      go_cut [12] (fun s12 wx => s12 = .pointer (some ⟨wr.heap.size + 1, 0, none⟩) ∧ PlIs w wr wx gY (pyOf (List.replicate n (-1))) [])
      case first =>
        have rbq := run_buildQ wr
        go_wp2
        go_meet
        exact ⟨rfl, HP0.out⟩
      obtain ⟨rfl, hpl⟩ := hcut
      obtain ⟨w5, rfl⟩ : ∃ w5 : World, w5 = wc := ⟨_, rfl⟩
      have HPL := Lib.hid hpl
      obtain ⟨gQ, hgQ⟩ : ∃ gQ, gQ = wr.heap.size + 1 := ⟨_, rfl⟩
      rw [← hgQ]
      have HGQ := Lib.hid hgQ
      obtain ⟨w3, hw3⟩ : ∃ w3 : World, w3 = wr := ⟨_, rfl⟩
      have HYA0 := Lib.hid (Ren.yat_zero HO2.out.toOk p)
      rw [← hw3] at HPL HGQ HBN
      have HLZ : Hid ((Ren.left ws (List.replicate ws.length (-1)) : Int) = (n : Int)) := Lib.hid (by
        rw [HWS.out.symm]
        congr 1
        unfold Ren.left
        rw [Ren.cnt_congr (g := fun _ => true) (fun i _ => by
          have : Ren.yr (List.replicate ws.length (-1)) i = -1 := by unfold Ren.yr; rw [List.getElem?_replicate]; split <;> rfl
          rw [this]; rfl)]
        unfold Ren.cnt
        simp)
      clear hpl hgQ hw3 hie hlt hgy HP0 HBI HYR HXR hsz HBG HXB HYB H1
      go_upto_region 12 with (fail)
      go_loopw [13, 14] (fun t13 t14 wx => ∃ (y : Nat) (ys : List Int) (q : List E), t14 = .int .i64 (y : Int) ∧ t13 = .int .i64 (Ren.left ws ys : Int) ∧ YAt ws p y ys q ∧ y ≤ Ren.lastY ws ∧ PlIs w w3 wx gY (pyOf ys) q) (fun _ t14 _ => Ren.lastY ws + 1 - (intOf t14).toNat)
      case atStart => exact ⟨0, _, [], rfl, by rw [HLZ.out], HYA0.out, Nat.zero_le _, by rw [HWS.out]; exact HPL.out⟩
      case round =>
        obtain ⟨y, ys, q, rfl, rfl, hya, hyl, hpl⟩ := hrel
        have HYA := Lib.hid hya
        have HPI := Lib.hid hpl
        have hlast : Ren.lastY ws = 20000 + n := by unfold Ren.lastY; rw [HWS.out]
        have HLAST := Lib.hid hlast
        clear hya hpl
        obtain ⟨lf, hlf⟩ : ∃ lf, lf = Ren.left ws ys := ⟨_, rfl⟩
        have HLF := Lib.hid hlf
        rw [← hlf]
        clear hlf
        by_cases h0 : 0 < lf
        · have hyt : y < Ren.lastY ws := Ren.year_top HO2.out hp (by rw [← HYA.out.st, ← HLF.out]; exact h0)
          have hlf60 : lf ≤ 60 := by have := Ren.left_le ws ys; rw [← HLF.out, HWS.out] at this; omega
          obtain ⟨A5, c5, hv5, hr1, hr2, hr3⟩ := HPI.out.row (HBN.out.own (y : Int)) (by have := HYBE.out; omega)
          have HV5 := Lib.hid hv5
          have HMY := Lib.hid (HPI.out.map HBN.out.map (by have := HYBE.out; omega))
          obtain ⟨m, hm⟩ : ∃ m, m = (begTo ws ws.length (y : Int)).length := ⟨_, rfl⟩
          have HM := Lib.hid hm
          have hm60 : m ≤ 60 := by
            rw [hm, beg_len]
            have : (begL ws (y : Int)).length ≤ ws.length := by unfold begL; exact Nat.le_trans (List.length_filter_le _ _) (by rw [List.length_range]; exact Nat.le_refl _)
            rw [HWS.out] at this
            omega
          rw [← hm] at HV5 hr1
          have HYT := Lib.hid hyt
          have hyb : y ≤ 20060 := by omega
          clear hv5 hr3 hm hlast hyl hyt
          go_upto_region 15 with (refine wpList_lookup_i rfl _ _ rfl gB val HMY.out rfl (y : Int) rfl (.slice A5 m c5) HV5.out ?_)
          go_loopw [58] (fun t58 wx => ∃ (k : Nat) (q : List E), t58 = .int .i64 (k : Int) ∧ k ≤ m ∧ YPush ws p y k ys q ∧ PlIs w w3 wx gY (pyOf ys) q) (fun t58 _ => m - (intOf t58).toNat)
          case atStart => exact ⟨0, q, rfl, Nat.zero_le _, Ren.ypush_zero HYA.out, HPI.out⟩
          case round =>
            obtain ⟨k, q, rfl, hkm, hyp, hpl⟩ := hrel
            have HYP := Lib.hid hyp
            have HPK := Lib.hid hpl
            clear hyp hpl
            by_cases hk : k < m
            · obtain ⟨j, hj⟩ : ∃ j, (begL ws (y : Int))[k]? = some j := ⟨_, List.getElem?_eq_getElem (by have := HM.out; rw [beg_len] at this; omega)⟩
              have hsl : Prs wr A5 (begTo ws ws.length (y : Int)) := HPK.out.row2 (HBN.out.own (y : Int)) (by have := HYBE.out; omega) (by rw [← HM.out]; exact HV5.out)
              obtain ⟨b5, o5, rfl, e0, e1⟩ := hsl.at_ (beg_get hj)
              have HJ := Lib.hid hj
              obtain ⟨bj, hbj⟩ : ∃ bj, bj = Ren.B ws j := ⟨_, rfl⟩
              have HBJ := Lib.hid hbj
              have hq60 : q.length ≤ 100 := by have := qs_len HYP.out.qs; rw [HWS.out] at this; omega
              have hpu := hpush_c q (w3.heap.size + 1) (bj, (j : Int)) (wr.alloc (.cells #[.int .i64 bj, .int .i64 (j : Int)] 70)) (HPK.out.q.ext ((Ext.refl wr).alloc _)) HYP.out.qs.heap hq60
              rw [← HGQ.out] at hpu
              have HPU := Lib.hid hpu
              have HPA := Lib.hid (HPK.out.ext ((Ext.refl wr).alloc (.cells #[.int .i64 bj, .int .i64 (j : Int)] 70)))
              simp only at e0 e1
              rw [← hbj] at e0
              clear hj hsl hbj hpu hq60
              go_wp2_with (go_at_call 34; refine HPU.out.mono ?_; rintro e w2 ⟨rfl, q2, u1, u2, u3, u4⟩; have HU1 := Lib.hid u1; have HU2 := Lib.hid u2; have HU3 := Lib.hid u3; have HU4 := Lib.hid u4; clear u1 u2 u3 u4)
              go_roundw
              case rel => exact ⟨k + 1, q2, by go_num, hk, Ren.ypush_next HYP.out HJ.out (by rw [← HBJ.out]; exact HU2.out) HU3.out, HPA.out.heap (by have := HU4.out; rw [HGQ.out] at this; exact this) (by rw [← HGQ.out]; exact HU1.out)⟩
              case measure => simp [intOf]; omega
            · have HYI := Lib.hid (Ren.ypush_end HYP.out (by have := HM.out; rw [beg_len] at this; omega))
              go_upto_region 20 with (fail)
              go_loopw [13, 17] (fun t13 t17 wx => ∃ (nn : Nat) (ys2 : List Int) (q2 : List E), t17 = .int .i64 (nn : Int) ∧ t13 = .int .i64 (Ren.left ws ys2 : Int) ∧ YIn ws p y nn ys2 q2 ∧ PlIs w w3 wx gY (pyOf ys2) q2) (fun _ t17 _ => p - (intOf t17).toNat)
              case atStart => exact ⟨0, ys, q, rfl, by rw [HLF.out], HYI.out, HPK.out⟩
              case round =>
                obtain ⟨nn, ys2, q2, rfl, rfl, hyi, hpl⟩ := hrel
                have HYN := Lib.hid hyi
                have HPN := Lib.hid hpl
                have hnp := hyi.np
                obtain ⟨vq, hqb, hqo, _⟩ := hpl.q
                obtain ⟨Aq, cq, rfl, _, _, _, _⟩ := own_sl5 hqo
                have cQ := blk_cell hqb 0
                rw [← HGQ.out] at cQ
                have cQ' : wr.cell? ⟨gQ, 0, none⟩ = some (.slice Aq q2.length cq) := cQ
                have HLEN := Lib.hid (Len_c Aq q2.length cq wr)
                have hq60 : q2.length ≤ 60 := by have := qs_len hyi.qs; rw [HWS.out] at this; omega
                obtain ⟨ql, hql⟩ : ∃ ql, ql = q2.length := ⟨_, rfl⟩
                have HQL := Lib.hid hql
                obtain ⟨lf2, hlf2⟩ : ∃ lf2, lf2 = Ren.left ws ys2 := ⟨_, rfl⟩
                have HLF2 := Lib.hid hlf2
                rw [← hql] at cQ' HLEN hq60
                rw [← hlf2]
                clear hyi hpl hqb hqo cQ hql hlf2
                go_upto_region 20 with (fail)
                go_cut [77] (fun s77 wx => ∃ bb : Bool, s77 = .bool bb ∧ Hid (bb = (decide (nn < p) && decide (0 < ql))) ∧ wr = wx)
                case first =>
                  by_cases hnn : nn < p
                  · by_cases hq0 : 0 < ql
                    · have HE : Hid (true = (decide (nn < p) && decide (0 < ql))) := Lib.hid (by rw [decide_eq_true hnn, decide_eq_true hq0]; rfl)
                      go_wp2_with (go_at_call 35; refine HLEN.out.mono ?_; rintro e w' ⟨rfl, rfl⟩)
                      go_meet
                      exact ⟨true, by first | rfl | simp [hq0], HE, rfl⟩
                    · have HE : Hid (false = (decide (nn < p) && decide (0 < ql))) := Lib.hid (by rw [decide_eq_false hq0, Bool.and_false])
                      go_wp2_with (go_at_call 35; refine HLEN.out.mono ?_; rintro e w' ⟨rfl, rfl⟩)
                      go_meet
                      exact ⟨false, by first | rfl | simp [hq0], HE, rfl⟩
                  · have HE : Hid (false = (decide (nn < p) && decide (0 < ql))) := Lib.hid (by rw [decide_eq_false hnn, Bool.false_and])
                    go_wp2
                    go_meet
                    exact ⟨false, by first | rfl | simp [hnn], HE, rfl⟩
                obtain ⟨bb, rfl, hbb, rfl⟩ := hcut
                cases bb with
                | false =>
                  have he : nn = p ∨ q2 = [] := by
                    have h1 := hbb.out
                    by_cases hnn : nn < p
                    · rw [decide_eq_true hnn, Bool.true_and] at h1
                      have h2 : ¬ 0 < ql := fun q => by rw [decide_eq_true q] at h1; cases h1
                      exact .inr (List.eq_nil_of_length_eq_zero (by rw [← HQL.out]; omega))
                    · exact .inl (by omega)
                  have HYE := Lib.hid (Ren.yin_end HYN.out he)
                  have wy : IntKind.i64.wrap ((y : Int) + 1) = (y : Int) + 1 := IntWalk.i64_in _ (by omega)
                  clear hbb he cQ'
                  go_wp2
                  go_roundw
                  case rel => exact ⟨y + 1, ys2, q2, by go_num, by rw [HLF2.out], HYE.out, HYT.out, HPN.out⟩
                  case measure => have := HYT.out; simp [intOf]; omega
                | true =>
                  have hh : nn < p ∧ 0 < ql := by
                    have h1 := hbb.out.symm
                    rw [Bool.and_eq_true, decide_eq_true_eq, decide_eq_true_eq] at h1
                    exact h1
                  obtain ⟨hnn, hql0⟩ := hh
                  obtain ⟨mm, hmm⟩ : ∃ mm, ql = mm + 1 := ⟨ql - 1, by omega⟩
                  have HMM : Hid (q2.length = mm + 1) := Lib.hid (by rw [← HQL.out]; exact hmm)
                  have hpo := hpop_c q2 (w3.heap.size + 1) mm wr HPN.out.q HYN.out.qs.heap HMM.out (by omega)
                  rw [← HGQ.out] at hpo
                  have HPO := Lib.hid hpo
                  clear hbb hmm hpo cQ'
                  go_upto_region 22 with (fail)
                  go_cut [18] (fun s18 wx => ∃ (k g18 : Nat) (q3 : List E), s18 = .pointer (some ⟨g18, 0, none⟩) ∧ wx.heap[g18]? = some (.cells #[.int .i64 (Ren.B ws k), .int .i64 (k : Int)] 70 (0, 0)) ∧ k < ws.length ∧ Hid (Ren.pend ws ys2 y k = true) ∧ Hid (∀ i, i < ws.length → Ren.pend ws ys2 y i = true → Ren.urg ws k i) ∧ Hid (Qs ws (fun i => Ren.pend ws ys2 y i && !decide (i = k)) q3) ∧ PlIs w w3 wx gY (pyOf ys2) q3 ∧ w3.heap.size ≤ g18)
                  case first =>
                    go_wp2_with fail
                    refine HPO.out.mono ?_
                    rintro e w2 ⟨q4, i4, rfl, p1, p2, p3, p4⟩
                    obtain ⟨k, k1, k2, k3, k4, k5⟩ := Ren.qs_pop HYN.out.qs HMM.out (.inr ⟨i4, p2⟩) p3
                    rw [k3]
                    have HK1 := Lib.hid k1
                    have HK2 := Lib.hid k2
                    have HK4 := Lib.hid k4
                    have HK5 := Lib.hid k5
                    have HP2 := Lib.hid (HPN.out.heap (by rw [HGQ.out] at p4; exact p4) (by rw [← HGQ.out]; exact p1))
                    obtain ⟨bk, hbk⟩ : ∃ bk, bk = Ren.B ws k := ⟨_, rfl⟩
                    have HBK := Lib.hid hbk
                    simp only
                    rw [← hbk]
                    have rta : ∀ W : World, (Instr.typeAssert (.iface 70 (.agg #[.int .i64 bk, .int .i64 (k : Int)])) 20 70 false).run Try.prog W = .ok (.agg #[.int .i64 bk, .int .i64 (k : Int)]) W := fun W => by kernel_rfl
                    have HZ := Lib.hid (heap_alloc_new w2 (.cells #[.int .i64 0, .int .i64 0] 70))
                    have HSP : Hid (w3.heap.size ≤ w2.heap.size) := Lib.hid (by have := HP2.out.size; omega)
                    clear k1 k2 k3 k4 k5 p1 p2 p3 p4 hbk
                    go_wp2
                    go_meet
                    exact ⟨k, w2.heap.size, _, rfl, by rw [← HBK.out]; exact heap_alloc_new w2 _, HK1.out, Lib.hid HK2.out, Lib.hid HK4.out, Lib.hid HK5.out, HP2.out.ext ((Ext.refl w2).alloc _), HSP.out⟩
                  obtain ⟨k, g18, q3, rfl, hb18, hkl, hkp, hku, hkq, hpl, hg18⟩ := hcut
                  obtain ⟨wp, rfl⟩ : ∃ wp : World, wp = wc := ⟨_, rfl⟩
                  have HPP := Lib.hid hpl
                  have HKP := Lib.hid hkp.out
                  have HKU := Lib.hid hku.out
                  have HKQ := Lib.hid hkq.out
                  have HKL := Lib.hid hkl
                  have hkn : k < n := by rw [← HWS.out]; exact hkl
                  obtain ⟨bk, hbk⟩ : ∃ bk, bk = Ren.B ws k := ⟨_, rfl⟩
                  have HBK := Lib.hid hbk
                  rw [← hbk] at hb18
                  have d0 := blk_cell hb18 0
                  have d1 := blk_cell hb18 1
                  have d0' : wp.cell? ⟨g18, 0, none⟩ = some (.int .i64 bk) := d0
                  have d1' : wp.cell? ⟨g18, 1, none⟩ = some (.int .i64 (k : Int)) := d1
                  have hpy : (pyOf ys2).length = n := by rw [Ren.py_len, HYN.out.len, HWS.out]
                  obtain ⟨vy, ey⟩ : ∃ vy : Int, wp.cell? ⟨gY, k, none⟩ = some (.int .i64 vy) := by
                    have := blk_cell hpl.yb k
                    exact ⟨(pyOf ys2)[k]'(by omega), by rw [this, List.getElem?_toArray, List.getElem?_map, List.getElem?_eq_getElem (by omega)]; rfl⟩
                  have fy := blk_frozen hpl.yb k
                  have HXP := Lib.hid hpl.x
                  clear hkp hku hkq hpl hb18 d0 d1 hbk hkl hpy
                  by_cases hlate : bk < (y : Int)
                  · have HRN : Hid (R = none) := Lib.hid (by rw [HR.out]; exact Ren.yin_late HYN.out hnn HKL.out HKP.out HKU.out (by rw [← HBK.out]; exact hlate) HYT.out)
                    have HF : Hid (∀ W, Ext w W → PlanRet w R (.returned (.tuple #[.slice none 0 0, .bool false])) W) := Lib.hid (fun W x => by rw [HRN.out]; exact ⟨rfl, x⟩)
                    have e1 : decide (bk < (y : Int)) = true := decide_eq_true hlate
                    clear hlate
                    go_wp2
                    go_ret2
                    exact HF.out _ HXP.out
                  · have hy0 : (0 : Int) ≤ (y : Int) := by omega
                    have HNX := Lib.hid (Ren.yin_next HYN.out hnn HKL.out HKP.out HKU.out HKQ.out (by rw [← HBK.out]; omega))
                    have hlt2 := Ren.yin_left HYN.out HKL.out HKP.out
                    rw [← HLF2.out] at hlt2
                    have HPY := Lib.hid (HPP.out.year k (y : Int))
                    have hpe := Ren.py_set ys2 k hy0
                    rw [hpe] at HPY
                    obtain ⟨l3, hl3⟩ : ∃ l3, l3 = Ren.left ws (ys2.set k (y : Int)) := ⟨_, rfl⟩
                    have HL3 := Lib.hid hl3
                    rw [← hl3] at hlt2
                    have hlf260 : lf2 ≤ 60 := by have := Ren.left_le ws ys2; rw [← HLF2.out, HWS.out] at this; omega
                    have wl : IntKind.i64.wrap ((lf2 : Int) - 1) = (l3 : Int) := by rw [show (lf2 : Int) - 1 = (l3 : Int) by omega]; exact IntWalk.i64_in _ (by omega)
                    have wl3 : IntKind.i64.wrap (l3 : Int) = (l3 : Int) := IntWalk.i64_in _ (by omega)
                    have wn : IntKind.i64.wrap ((nn : Int) + 1) = (nn : Int) + 1 := IntWalk.i64_in _ (by omega)
                    have HLT2 := Lib.hid hlt2
                    clear hpe hl3 hlt2 hlf260
                    go_wp2
                    go_roundw
                    case rel => exact ⟨nn + 1, ys2.set k (y : Int), q3, by go_num, by rw [← HL3.out], HNX.out, HPY.out⟩
                    case measure => simp [intOf]; omega
        · have hlf0 : lf = 0 := by omega
          have HD := Lib.hid (Ren.yat_done HYA.out (by rw [← HLF.out]; exact hlf0) hyl)
          have HYB := Lib.hid HPI.out.yb
          have HPX := Lib.hid HPI.out.x
          have hpyl : (pyOf ys).length = n := by rw [Ren.py_len, HYA.out.st, (Ren.state_is ws p y).len, HWS.out]
          have HF : Hid (PlanRet w R (.returned (.tuple #[.slice (some ⟨gY, 0, none⟩) n n, .bool true])) wr) := Lib.hid (by
            rw [HR.out, HD.out.1]
            exact ⟨some ⟨gY, 0, none⟩, n, by rw [hpyl], sl_block HYB.out rfl, by rw [hpyl]; exact Nat.le_refl _, by unfold maxLen; omega, HPX.out⟩)
          subst hlf0
          clear hpyl hlast hyl
          go_wp2
          go_ret2
          exact HF.out
end Go.Proofs.Ytnijfndpefkoeaa
