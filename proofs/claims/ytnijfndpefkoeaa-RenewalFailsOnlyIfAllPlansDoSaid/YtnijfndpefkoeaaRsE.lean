import Derived.Test.YtnijfndpefkoeaaRsB
namespace Go.Proofs.Ytnijfndpefkoeaa
open Go Go.Proofs Go.RowKit
open Ren (PnAt PnIn planF minA pickTo pickI)
set_option maxHeartbeats 12800000
set_option maxRecDepth 100000
def ysV (ys : List Int) : Array Value := (ys.map (Value.int .i64)).toArray
theorem ysv_zero (n : Nat) : zeroRow n = ysV (List.replicate n 0) := by unfold zeroRow ysV; rw [List.map_replicate]
theorem ysv_set (ys : List Int) (k : Nat) (y : Int) : (ysV ys).setIfInBounds k (.int .i64 y) = ysV (ys.set k y) := by unfold ysV; rw [List.map_set]; simp
theorem ysv_cell {W : World} {g : Nat} {ys : List Int} (h : W.heap[g]? = some (.cells (ysV ys) 3 (0, 0))) {i : Nat} (hi : i < ys.length) : W.cell? ⟨g, i, none⟩ = some (.int .i64 (Ren.yr ys i)) := by
  rw [blk_cell h]
  unfold ysV Ren.yr
  rw [List.getElem?_toArray, List.getElem?_map, List.getElem?_eq_getElem hi]
  rfl
theorem ysv_put {W : World} {g : Nat} {ys : List Int} (h : W.heap[g]? = some (.cells (ysV ys) 3 (0, 0))) (k : Nat) (y : Int) : (W.setCell ⟨g, k, none⟩ (.int .i64 y)).heap[g]? = some (.cells (ysV (ys.set k y)) 3 (0, 0)) := by
  rw [← ysv_set]; exact heap_set_self h k _
def fillY (n i : Nat) : List Int := List.replicate i (-1) ++ List.replicate (n - i) 0
theorem fillY_zero (n : Nat) : fillY n 0 = List.replicate n 0 := by simp [fillY]
theorem fillY_all (n : Nat) : fillY n n = List.replicate n (-1) := by simp [fillY]
theorem fillY_len {n i : Nat} (h : i ≤ n) : (fillY n i).length = n := by simp [fillY]; omega
theorem fillY_set {n i : Nat} (h : i < n) : (fillY n i).set i (-1) = fillY n (i + 1) := by
  unfold fillY
  rw [List.set_append_right _ _ (by simp), List.length_replicate, Nat.sub_self, show n - i = (n - (i + 1)) + 1 by omega, List.replicate_succ, List.set_cons_zero, List.replicate_succ' (n := i), List.append_assoc]
  rfl
theorem left_start (ws : List (Int × Int)) : Ren.left ws (List.replicate ws.length (-1)) = ws.length := by
  unfold Ren.left
  rw [Ren.cnt_congr (g := fun _ => true) (fun i _ => by
    have : Ren.yr (List.replicate ws.length (-1)) i = -1 := by unfold Ren.yr; rw [List.getElem?_replicate]; split <;> rfl
    rw [this]; rfl)]
  unfold Ren.cnt
  simp
def bOf : Value → Nat
  | .bool true => 1
  | _ => 0
/-- What Planned returns. -/
def PlannedRet (w : World) (ws : List (Int × Int)) (p : Nat) (e : Ending) (w' : World) : Prop :=
  ∃ A c ys ok, e = .returned (.tuple #[.slice A ys.length c, .bool ok]) ∧ Sl w' .i64 A ys ∧ ys.length ≤ 60 ∧ planF ws p = (if ok = true then some ys else none) ∧ Ext w w'
theorem Planned_c (A : Option Addr) (L : List (Int × Int)) (c p : Nat) (w : World) (hl : L.length ≤ 60) (h1 : Prs w A L) (hok : ∀ q ∈ L, okM q = true) (hp : 1 ≤ p) (hp2 : p ≤ 60) : Calls Try.prog 17 #[.slice A L.length c, .int .i64 (p : Int)] w (PlannedRet w (wsF L) p) := by
  have HBS := Lib.hid (fun h => h1.base h)
  have H1 := Lib.hid h1
  have HOK := Lib.hid hok
  have HWS := Lib.hid (ws_len L)
  have HO2 := Lib.hid (ws_ok hok)
  have HMD := Lib.hid (fun (b o : Nat) (e : A = some ⟨b, o, none⟩) (W : World) (x : Ext w W) (i : Nat) (hi : i < L.length) => med_at (w := W) (b := b) (o := o) (by rw [← e]; exact H1.out.ext x) HOK.out hi)
  obtain ⟨ws, hwsd⟩ : ∃ ws, ws = wsF L := ⟨_, rfl⟩
  rw [← hwsd] at HWS HO2 HMD ⊢
  obtain ⟨n, hn⟩ : ∃ n, n = L.length := ⟨_, rfl⟩
  rw [← hn] at hl HWS HBS HMD ⊢
  clear h1 hok hwsd H1 HOK hn
  have hmk := make_runT w n (by omega)
  have HZ : Hid ((w.alloc (.cells (zeroRow n) 3)).heap[w.heap.size]? = some (.cells (ysV (fillY n 0)) 3 (0, 0))) := Lib.hid (by rw [fillY_zero, ← ysv_zero]; exact heap_alloc_new w _)
  go_enter Try.func17, Try.ntmps17
  go_upto_region 4 with (fail)
  go_loopw [8] (fun t8 wx => ∃ i : Nat, t8 = .int .i64 (i : Int) ∧ i ≤ n ∧ wx.heap[w.heap.size]? = some (.cells (ysV (fillY n i)) 3 (0, 0)) ∧ Ext w wx) (fun t8 _ => n - (intOf t8).toNat)
  case atStart => exact ⟨0, rfl, Nat.zero_le _, HZ.out, (Ext.refl w).alloc _⟩
  case round =>
    obtain ⟨i, rfl, hin, hy, hx⟩ := hrel
    have HY := Lib.hid hy
    have HX := Lib.hid hx
    clear hy hx
    by_cases hlt : i < n
    · have ey := ysv_cell HY.out (i := i) (by rw [fillY_len hin]; exact hlt)
      have fy := blk_frozen HY.out i
      have HYN := Lib.hid (ysv_put HY.out i (-1))
      rw [fillY_set hlt] at HYN
      have HXN := Lib.hid (HX.out.setCell (p := ⟨w.heap.size, i, none⟩) (Nat.le_refl _) (.int .i64 (-1)))
      go_wp2
      go_roundw
      case rel => exact ⟨i + 1, by go_num, hlt, HYN.out, HXN.out⟩
      case measure => simp [intOf]; omega
    · have hie : i = n := by omega
      have HY0 : Hid (wr.heap[w.heap.size]? = some (.cells (ysV (List.replicate ws.length (-1))) 3 (0, 0))) := Lib.hid (by have := HY.out; rw [hie, fillY_all] at this; rw [HWS.out]; exact this)
      have HP0 := Lib.hid (Ren.pn_zero ws p)
      have HL0 : Hid ((Ren.left ws (List.replicate ws.length (-1)) : Int) = (n : Int)) := Lib.hid (by rw [left_start, HWS.out])
      have HZ0 : Hid (∀ i, i < ws.length → Ren.yr (List.replicate ws.length (-1)) i < 0 → ((0 : Nat) : Int) ≤ Ren.A ws i) := Lib.hid (fun i hi _ => HO2.out.lo i hi)
      clear hie HY
      go_upto_region 8 with (fail)
      go_loopw [7, 9] (fun t7 t9 wx => ∃ (y : Nat) (ys : List Int) (ok : Bool), t7 = .bool ok ∧ t9 = .int .i64 (Ren.left ws ys : Int) ∧ PnAt ws p y ys ok ∧ y ≤ Ren.lastY ws ∧ Hid (∀ i, i < ws.length → Ren.yr ys i < 0 → (y : Int) ≤ Ren.A ws i) ∧ wx.heap[w.heap.size]? = some (.cells (ysV ys) 3 (0, 0)) ∧ Ext w wx) (fun _ t9 _ => (intOf t9).toNat)
      case atStart => exact ⟨0, _, true, rfl, by rw [HL0.out], HP0.out, Nat.zero_le _, HZ0, HY0.out, HX.out⟩
      case round =>
        clear hlt hin HX HY0 HP0 HL0 HZ0
        obtain ⟨y, ys, ok, rfl, rfl, hpn, hyl, hz, hy, hx⟩ := hrel
        have HPN := Lib.hid hpn
        have HZY := Lib.hid hz.out
        have HY := Lib.hid hy
        have HX := Lib.hid hx
        have HYS := Lib.hid (Ren.pn_len hpn)
        clear hpn hz hy hx
        obtain ⟨lf, hlf⟩ : ∃ lf, lf = Ren.left ws ys := ⟨_, rfl⟩
        have HLF := Lib.hid hlf
        have hlf60 : lf ≤ 60 := by have := Ren.left_le ws ys; rw [← hlf, HWS.out] at this; omega
        rw [← hlf]
        clear hlf
        by_cases h0 : 0 < lf
        · obtain ⟨z, hz1, hz2, hz3, hz4⟩ := Ren.pn_skip HO2.out HPN.out (by rw [← HLF.out]; exact h0) HZY.out
          have HM := Lib.hid hz1
          have HPZ := Lib.hid hz3
          have HPE := Lib.hid hz4
          clear hz1 hz3 hz4 HPN HZY
          have hn0 : 0 < n := by rw [← HWS.out]; obtain ⟨i, hi, _⟩ := HPE.out; omega
          obtain ⟨b, o, hA⟩ := HBS.out hn0
          have HMA := Lib.hid (HMD.out b o hA)
          subst hA
          clear HMD HBS
          have e0 : decide ((lf : Int) > 0) = true := decide_eq_true (by omega)
          go_upto_region 11 with (fail)
          go_loopw [10, 11] (fun t10 t11 wx => ∃ i : Nat, t11 = .int .i64 (i : Int) ∧ i ≤ n ∧ t10 = .int .i64 (minA ws ys i) ∧ wx.heap[w.heap.size]? = some (.cells (ysV ys) 3 (0, 0)) ∧ Ext w wx) (fun _ t11 _ => n - (intOf t11).toNat)
          case atStart => exact ⟨0, rfl, Nat.zero_le _, rfl, HY.out, HX.out⟩
          case round =>
            clear HY HX
            obtain ⟨i, rfl, hin, rfl, hy, hx⟩ := hrel
            have HY := Lib.hid hy
            have HX := Lib.hid hx
            clear hy hx
            have HMS : Hid (minA ws ys (i + 1) = if Ren.yr ys i < 0 ∧ Ren.A ws i < minA ws ys i then Ren.A ws i else minA ws ys i) := Lib.hid rfl
            by_cases hlt : i < n
            · obtain ⟨x0, x1, fr, to_, m0, m1, ha, hb, ⟨b1, b2, b3, b4⟩, hc⟩ := HMA.out wr HX.out i hlt
              have HC := Lib.hid hc
              rw [ha] at HMS
              obtain ⟨mm, hmm⟩ : ∃ mm, mm = minA ws ys i := ⟨_, rfl⟩
              obtain ⟨yi, hyi⟩ : ∃ yi, yi = Ren.yr ys i := ⟨_, rfl⟩
              have HYI := Lib.hid hyi
              rw [← hmm, ← hyi] at HMS
              rw [← hmm]
              clear ha hb hc hmm hyi
              go_upto_region 14 with (go_at_call 13; refine (HC.out _).mono ?_; rintro e w2 ⟨rfl, hx2⟩; have HX2 := Lib.hid (HX.out.trans hx2); have HY2 := Lib.hid (ext_heap hx2 HY.out); clear hx2)
              clear m0 m1 HC
              have ey := ysv_cell HY2.out (i := i) (by rw [HYS.out, HWS.out]; exact hlt)
              rw [← HYI.out] at ey
              clear HYI
              by_cases d1 : yi < 0
              · by_cases d2 : fr < mm
                · have HE : Hid (minA ws ys (i + 1) = fr) := Lib.hid (by rw [HMS.out, if_pos ⟨d1, d2⟩])
                  have f1 : decide (yi < 0) = true := decide_eq_true d1
                  have f2 : decide (fr < mm) = true := decide_eq_true d2
                  clear d1 d2 HMS
                  go_wp2
                  go_roundw
                  case rel => exact ⟨i + 1, by go_num, hlt, by rw [HE.out], HY2.out, HX2.out⟩
                  case measure => simp [intOf]; omega
                · have HE : Hid (minA ws ys (i + 1) = mm) := Lib.hid (by rw [HMS.out, if_neg (fun q => d2 q.2)])
                  have f1 : decide (yi < 0) = true := decide_eq_true d1
                  have f2 : decide (fr < mm) = false := decide_eq_false d2
                  clear d1 d2 HMS
                  go_wp2
                  go_roundw
                  case rel => exact ⟨i + 1, by go_num, hlt, by rw [HE.out], HY2.out, HX2.out⟩
                  case measure => simp [intOf]; omega
              · have HE : Hid (minA ws ys (i + 1) = mm) := Lib.hid (by rw [HMS.out, if_neg (fun q => d1 q.1)])
                have f1 : decide (yi < 0) = false := decide_eq_false d1
                clear d1 HMS
                go_wp2
                go_roundw
                case rel => exact ⟨i + 1, by go_num, hlt, by rw [HE.out], HY2.out, HX2.out⟩
                case measure => simp [intOf]; omega
            · have hie : i = n := by omega
              have HME : Hid (minA ws ys i = (z : Int)) := Lib.hid (by rw [hie, ← HWS.out]; exact HM.out)
              rw [HME.out]
              clear HMS hie
              go_upto_region 17 with (fail)
              go_loopw [7, 9, 10, 14] (fun t7 t9 t10 t14 wx => ∃ (y : Nat) (ys : List Int) (ok more : Bool), t7 = .bool ok ∧ t9 = .int .i64 (Ren.left ws ys : Int) ∧ t10 = .int .i64 (y : Int) ∧ t14 = .bool more ∧ PnAt ws p y ys ok ∧ y ≤ Ren.lastY ws ∧ Hid (more = false → ∀ i, i < ws.length → Ren.yr ys i < 0 → (y : Int) ≤ Ren.A ws i) ∧ Hid (Ren.left ws ys < lf ∨ (more = true ∧ ∃ i, i < ws.length ∧ Ren.pend ws ys y i = true)) ∧ Ren.left ws ys ≤ lf ∧ wx.heap[w.heap.size]? = some (.cells (ysV ys) 3 (0, 0)) ∧ Ext w wx) (fun _ t9 _ t14 _ => 2 * (intOf t9).toNat + bOf t14)
              case atStart => exact ⟨z, ys, ok, true, rfl, by rw [HLF.out], rfl, rfl, HPZ.out, by unfold Ren.lastY; omega, Lib.hid (fun q => by cases q), Lib.hid (.inr ⟨rfl, HPE.out⟩), by rw [HLF.out]; exact Nat.le_refl _, HY.out, HX.out⟩
              case round =>
                clear HY HX HME hin hlt HM HPZ HPE hz2 e0 HYS hyl
                clear HLF
                obtain ⟨y, ys0, ok0, more, rfl, rfl, rfl, rfl, hpn, hyl, hmo, hld, hll, hy, hx⟩ := hrel
                have HPN := Lib.hid hpn
                have HMO := Lib.hid hmo.out
                have HLD := Lib.hid hld.out
                have HY := Lib.hid hy
                have HX := Lib.hid hx
                clear hpn hmo hld hy hx
                obtain ⟨l2, hl2⟩ : ∃ l2, l2 = Ren.left ws ys0 := ⟨_, rfl⟩
                have HL2 := Lib.hid hl2
                rw [← hl2] at hll ⊢
                clear hl2
                by_cases hgo : more = true ∧ 0 < l2
                · obtain ⟨rfl, hl20⟩ := hgo
                  have hyt : y < Ren.lastY ws := Ren.year_top HO2.out hp (by rw [← HPN.out.st, ← HL2.out]; exact hl20)
                  have hyb : y ≤ 20060 := by unfold Ren.lastY at hyt; rw [HWS.out] at hyt; omega
                  have HYT := Lib.hid hyt
                  have HPI := Lib.hid (Ren.pn_start HPN.out)
                  have e1 : decide ((l2 : Int) > 0) = true := decide_eq_true (by omega)
                  clear hyt hyl
                  go_upto_region 21 with (fail)
                  go_loopw [7, 9, 14, 15] (fun t7 t9 t14 t15 wx => ∃ (nn : Nat) (ys : List Int) (ok b : Bool), t7 = .bool ok ∧ t9 = .int .i64 (Ren.left ws ys : Int) ∧ t14 = .bool b ∧ t15 = .int .i64 (nn : Int) ∧ PnIn ws p y nn ys ok ∧ Hid (b = decide (0 < nn)) ∧ Hid (nn = 0 → ys = ys0) ∧ Ren.left ws ys + nn = l2 ∧ wx.heap[w.heap.size]? = some (.cells (ysV ys) 3 (0, 0)) ∧ Ext w wx) (fun _ _ _ t15 _ => p - (intOf t15).toNat)
                  case atStart => exact ⟨0, ys0, ok0, false, rfl, by rw [HL2.out], rfl, rfl, HPI.out, Lib.hid rfl, Lib.hid (fun _ => rfl), by rw [HL2.out]; rfl, HY.out, HX.out⟩
                  case round =>
                    clear HY HX HPI HMO HPN
                    obtain ⟨nn, ys, ok, b, rfl, rfl, rfl, rfl, hpi, hb, hnz, hln, hy, hx⟩ := hrel
                    have HPI := Lib.hid hpi
                    have HB := Lib.hid hb.out
                    have HNZ := Lib.hid hnz.out
                    have HY := Lib.hid hy
                    have HX := Lib.hid hx
                    have HYS := Lib.hid hpi.len
                    have hnp := hpi.np
                    clear hpi hb hnz hy hx
                    obtain ⟨l3, hl3⟩ : ∃ l3, l3 = Ren.left ws ys := ⟨_, rfl⟩
                    have HL3 := Lib.hid hl3
                    rw [← hl3] at hln ⊢
                    clear hl3
                    -- the end of the year
                    have HEND : Hid (∀ (hq : nn = p ∨ Ren.pick ws ys (y : Int) = none), PnAt ws p (y + 1) ys ok ∧ (b = false → ∀ i, i < ws.length → Ren.yr ys i < 0 → ((y + 1 : Nat) : Int) ≤ Ren.A ws i) ∧ (Ren.left ws ys < lf ∨ (b = true ∧ ∃ i, i < ws.length ∧ Ren.pend ws ys ((y + 1 : Nat) : Int) i = true)) ∧ Ren.left ws ys ≤ lf) := Lib.hid (by
                      intro hq
                      have hnone : nn = 0 → ∀ i, i < ws.length → Ren.pend ws ys (y : Int) i = false := fun q => by
                        rcases hq with r | r
                        · omega
                        · exact Ren.pick_no r
                      refine ⟨Ren.pn_end HPI.out hq, fun hbf i hi hyi => ?_, ?_, ?_⟩
                      · have hn0 : nn = 0 := by
                          rw [HB.out] at hbf
                          have := of_decide_eq_false hbf
                          omega
                        have := hnone hn0 i hi
                        rw [← Bool.not_eq_true, Ren.pend_iff] at this
                        have h2 : ¬ Ren.A ws i ≤ (y : Int) := fun r => this ⟨hyi, r⟩
                        omega
                      · refine .inl ?_
                        rw [← HL3.out]
                        rcases Nat.eq_zero_or_pos nn with q | q
                        · rcases HLD.out with r | ⟨_, i, hi, hpe⟩
                          · have := HL2.out; omega
                          · have h1 := hnone q i hi
                            rw [HNZ.out q, hpe] at h1
                            cases h1
                        · omega
                      · rw [← HL3.out]; omega)
                    by_cases hnl : nn < p
                    · go_upto_region 25 with (fail)
                      go_loopw [16, 17] (fun t16 t17 wx => ∃ i : Nat, t17 = .int .i64 (i : Int) ∧ i ≤ n ∧ t16 = .int .i64 (pickI (pickTo ws ys y i)) ∧ wx.heap[w.heap.size]? = some (.cells (ysV ys) 3 (0, 0)) ∧ Ext w wx) (fun _ t17 _ => n - (intOf t17).toNat)
                      case atStart => exact ⟨0, rfl, Nat.zero_le _, rfl, HY.out, HX.out⟩
                      case round =>
                        clear HY HX
                        obtain ⟨i, rfl, hin, rfl, hy, hx⟩ := hrel
                        have HY := Lib.hid hy
                        have HX := Lib.hid hx
                        clear hy hx
                        by_cases hlt : i < n
                        · obtain ⟨x0, x1, fr, to_, m0, m1, ha, hb, ⟨b1, b2, b3, b4⟩, hc⟩ := HMA.out wr HX.out i hlt
                          have HC := Lib.hid hc
                          have HPS := Lib.hid (Ren.pickTo_succ ws ys (y : Int) i)
                          have HPL : Hid (∀ k, pickTo ws ys (y : Int) i = some k → k < i) := Lib.hid (fun k q => Ren.pickTo_lt q)
                          obtain ⟨K, hK⟩ : ∃ K, K = pickTo ws ys (y : Int) i := ⟨_, rfl⟩
                          rw [← hK] at HPS HPL
                          rw [← hK]
                          have HPD : Hid (Ren.pend ws ys (y : Int) i = (decide (Ren.yr ys i < 0) && decide (fr ≤ (y : Int)))) := Lib.hid (by unfold Ren.pend; rw [ha])
                          have HBI := Lib.hid hb
                          clear hK ha hb hc
                          go_upto_region 28 with (go_at_call 13; refine (HC.out _).mono ?_; rintro e w2 ⟨rfl, hx2⟩; have HX2 := Lib.hid (HX.out.trans hx2); have HY2 := Lib.hid (ext_heap hx2 HY.out); clear hx2)
                          clear m0 m1 HC
                          have ey := ysv_cell HY2.out (i := i) (by rw [HYS.out, HWS.out]; exact hlt)
                          obtain ⟨yi, hyi⟩ : ∃ yi, yi = Ren.yr ys i := ⟨_, rfl⟩
                          rw [← hyi] at ey HPD
                          clear hyi
                          have HNO : Hid (Ren.pend ws ys (y : Int) i = false → pickTo ws ys (y : Int) (i + 1) = K) := Lib.hid (fun q => by rw [HPS.out]; unfold Ren.pickStep; rw [q]; rfl)
                          by_cases d1 : 0 ≤ yi
                          · have HE := Lib.hid (HNO.out (by rw [HPD.out, decide_eq_false (by omega)]; rfl))
                            have f1 : decide (yi ≥ 0) = true := decide_eq_true d1
                            clear d1 HPS HPD HNO
                            go_wp2
                            go_roundw
                            case rel => exact ⟨i + 1, by go_num, hlt, by rw [HE.out], HY2.out, HX2.out⟩
                            case measure => simp [intOf]; omega
                          · have f1 : decide (yi ≥ 0) = false := decide_eq_false d1
                            by_cases d2 : (y : Int) < fr
                            · have HE := Lib.hid (HNO.out (by rw [HPD.out, decide_eq_false (p := fr ≤ (y : Int)) (by omega), Bool.and_false]))
                              have f2 : decide (fr > (y : Int)) = true := decide_eq_true d2
                              clear d1 d2 HPS HPD HNO
                              go_wp2
                              go_roundw
                              case rel => exact ⟨i + 1, by go_num, hlt, by rw [HE.out], HY2.out, HX2.out⟩
                              case measure => simp [intOf]; omega
                            · have f2 : decide (fr > (y : Int)) = false := decide_eq_false (by omega)
                              have HPT : Hid (Ren.pend ws ys (y : Int) i = true) := Lib.hid (by rw [HPD.out, decide_eq_true (by omega), decide_eq_true (by omega)]; rfl)
                              clear d1 d2 HPD HNO
                              cases K with
                              | none =>
                                have HE : Hid (pickTo ws ys (y : Int) (i + 1) = some i) := Lib.hid (by rw [HPS.out]; unfold Ren.pickStep; rw [HPT.out]; rfl)
                                clear HPS
                                simp only [pickI]
                                go_wp2
                                go_roundw
                                case rel => exact ⟨i + 1, by go_num, hlt, by rw [HE.out]; rfl, HY2.out, HX2.out⟩
                                case measure => simp [intOf]; omega
                              | some k =>
                                have hkl := HPL.out k rfl
                                obtain ⟨v0, v1, fr2, to2, m0, m1, ha, hb, ⟨b5, b6, b7, b8⟩, hc⟩ := HMA.out w2 HX2.out k (by omega)
                                have HC := Lib.hid hc
                                have HE : Hid (pickTo ws ys (y : Int) (i + 1) = if to_ < to2 then some i else some k) := Lib.hid (by rw [HPS.out]; unfold Ren.pickStep; rw [HPT.out, HBI.out, ← hb]; rfl)
                                clear HPS ha hb hc
                                simp only [pickI]
                                have e3 : decide ((k : Int) < 0) = false := decide_eq_false (by omega)
                                by_cases d3 : to_ < to2
                                · rw [if_pos d3] at HE
                                  have f3 : decide (to_ < to2) = true := decide_eq_true d3
                                  clear d3
                                  go_wp2_with (go_at_call 13; refine (HC.out _).mono ?_; rintro e w3 ⟨rfl, hx2⟩; have HX3 := Lib.hid (HX2.out.trans hx2); have HY3 := Lib.hid (ext_heap hx2 HY2.out); clear hx2)
                                  go_roundw
                                  case rel => exact ⟨i + 1, by go_num, hlt, by rw [HE.out]; rfl, HY3.out, HX3.out⟩
                                  case measure => simp [intOf]; omega
                                · rw [if_neg d3] at HE
                                  have f3 : decide (to_ < to2) = false := decide_eq_false d3
                                  clear d3
                                  go_wp2_with (go_at_call 13; refine (HC.out _).mono ?_; rintro e w3 ⟨rfl, hx2⟩; have HX3 := Lib.hid (HX2.out.trans hx2); have HY3 := Lib.hid (ext_heap hx2 HY2.out); clear hx2)
                                  go_roundw
                                  case rel => exact ⟨i + 1, by go_num, hlt, by rw [HE.out]; rfl, HY3.out, HX3.out⟩
                                  case measure => simp [intOf]; omega
                        · have hie : i = n := by omega
                          have HPK : Hid (pickTo ws ys (y : Int) i = Ren.pick ws ys (y : Int)) := Lib.hid (by rw [hie, ← HWS.out]; exact Ren.pickTo_all _ _ _)
                          rw [HPK.out]
                          clear HPK hie hin
                          have wy : IntKind.i64.wrap ((y : Int) + 1) = (y : Int) + 1 := IntWalk.i64_in _ (by omega)
                          obtain ⟨K, hK⟩ : ∃ K, K = Ren.pick ws ys (y : Int) := ⟨_, rfl⟩
                          have HK := Lib.hid hK
                          rw [← hK]
                          clear hK
                          cases K with
                          | none =>
                            have HD := Lib.hid (HEND.out (.inr HK.out.symm))
                            simp only [pickI]
                            go_wp2
                            go_roundw
                            case rel => exact ⟨y + 1, ys, ok, b, rfl, by rw [HL3.out], by go_num, rfl, HD.out.1, HYT.out, Lib.hid HD.out.2.1, Lib.hid HD.out.2.2.1, HD.out.2.2.2, HY.out, HX.out⟩
                            case measure => (have hmb : bOf (.bool b) < 1 + 2 * nn := (by rw [HB.out]; rcases Nat.eq_zero_or_pos nn with q | q; (rw [q]; decide); (rw [decide_eq_true q]; simp [bOf]; omega)); (simp [intOf, bOf] at hmb ⊢); omega)
                          | some k =>
                            obtain ⟨kl, kp, ka⟩ := Ren.pick_facts HK.out.symm
                            have hkn : k < n := by rw [← HWS.out]; exact kl
                            have HNX := Lib.hid (Ren.pn_next HPI.out hnl HK.out.symm)
                            have HLN : Hid (l3 = Ren.left ws (ys.set k (y : Int)) + 1) := Lib.hid (by rw [HL3.out]; exact Ren.pn_left HPI.out HK.out.symm)
                            obtain ⟨x0, x1, fr, to_, m0, m1, ha, hb, ⟨b1, b2, b3, b4⟩, hc⟩ := HMA.out wr HX.out k hkn
                            have HC := Lib.hid hc
                            rw [hb] at HNX
                            obtain ⟨l4, hl4⟩ : ∃ l4, l4 = Ren.left ws (ys.set k (y : Int)) := ⟨_, rfl⟩
                            have HL4 := Lib.hid hl4
                            rw [← hl4] at HLN
                            have hl34 := HLN.out
                            have wl : IntKind.i64.wrap ((l3 : Int) - 1) = (l4 : Int) := by rw [show (l3 : Int) - 1 = (l4 : Int) by omega]; exact IntWalk.i64_in _ (by omega)
                            have wl4 : IntKind.i64.wrap (l4 : Int) = (l4 : Int) := IntWalk.i64_in _ (by omega)
                            have wn : IntKind.i64.wrap ((nn : Int) + 1) = (nn : Int) + 1 := IntWalk.i64_in _ (by omega)
                            have e3 : decide ((k : Int) < 0) = false := decide_eq_false (by omega)
                            simp only [pickI]
                            clear ha hb hc hl4 kl kp ka HEND hl34 wy
                            go_upto_region 36 with (go_at_call 13; refine (HC.out _).mono ?_; rintro e w2 ⟨rfl, hx2⟩; have HX2 := Lib.hid (HX.out.trans hx2); have HY2 := Lib.hid (ext_heap hx2 HY.out); clear hx2)
                            clear m0 m1 HC
                            have ey := ysv_cell HY2.out (i := k) (by rw [HYS.out, HWS.out]; exact hkn)
                            have fy := blk_frozen HY2.out k
                            obtain ⟨yk, hyk⟩ : ∃ yk, yk = Ren.yr ys k := ⟨_, rfl⟩
                            rw [← hyk] at ey
                            clear hyk
                            have HYN := Lib.hid (ysv_put HY2.out k (y : Int))
                            have HXN := Lib.hid (HX2.out.setCell (p := ⟨w.heap.size, k, none⟩) (Nat.le_refl _) (.int .i64 (y : Int)))
                            obtain ⟨ob, hob⟩ : ∃ ob, ob = (ok && decide ((y : Int) ≤ to_)) := ⟨_, rfl⟩
                            rw [← hob] at HNX
                            have HOB := Lib.hid hob
                            have HLS : Hid (l4 + (nn + 1) = l2) := Lib.hid (by have := HLN.out; omega)
                            clear hob
                            cases ok with
                            | false =>
                              have HE : Hid (false = ob) := Lib.hid (by rw [HOB.out]; rfl)
                              clear HOB
                              go_wp2
                              go_roundw
                              case rel => exact ⟨nn + 1, ys.set k (y : Int), ob, true, by rw [← HE.out], by rw [← HL4.out], rfl, by go_num, HNX.out, Lib.hid (by simp), Lib.hid (fun q => by omega), by rw [← HL4.out]; exact HLS.out, HYN.out, HXN.out⟩
                              case measure => simp [intOf]; omega
                            | true =>
                              by_cases d1 : (y : Int) ≤ to_
                              · have HE : Hid (true = ob) := Lib.hid (by rw [HOB.out, decide_eq_true d1]; rfl)
                                have f1 : decide ((y : Int) ≤ to_) = true := decide_eq_true d1
                                clear HOB d1
                                go_wp2
                                go_roundw
                                case rel => exact ⟨nn + 1, ys.set k (y : Int), ob, true, by rw [← HE.out], by rw [← HL4.out], rfl, by go_num, HNX.out, Lib.hid (by simp), Lib.hid (fun q => by omega), by rw [← HL4.out]; exact HLS.out, HYN.out, HXN.out⟩
                                case measure => simp [intOf]; omega
                              · have HE : Hid (false = ob) := Lib.hid (by rw [HOB.out, decide_eq_false d1]; rfl)
                                have f1 : decide ((y : Int) ≤ to_) = false := decide_eq_false d1
                                clear HOB d1
                                go_wp2
                                go_roundw
                                case rel => exact ⟨nn + 1, ys.set k (y : Int), ob, true, by rw [← HE.out], by rw [← HL4.out], rfl, by go_num, HNX.out, Lib.hid (by simp), Lib.hid (fun q => by omega), by rw [← HL4.out]; exact HLS.out, HYN.out, HXN.out⟩
                                case measure => simp [intOf]; omega
                    · have HD := Lib.hid (HEND.out (.inl (by omega)))
                      have wy : IntKind.i64.wrap ((y : Int) + 1) = (y : Int) + 1 := IntWalk.i64_in _ (by omega)
                      go_wp2
                      go_roundw
                      case rel => exact ⟨y + 1, ys, ok, b, rfl, by rw [HL3.out], by go_num, rfl, HD.out.1, HYT.out, Lib.hid HD.out.2.1, Lib.hid HD.out.2.2.1, HD.out.2.2.2, HY.out, HX.out⟩
                      case measure => (have hmb : bOf (.bool b) < 1 + 2 * nn := (by rw [HB.out]; rcases Nat.eq_zero_or_pos nn with q | q; (rw [q]; decide); (rw [decide_eq_true q]; simp [bOf]; omega)); (simp [intOf, bOf] at hmb ⊢); omega)
                · have HLT : Hid (l2 < lf) := Lib.hid (by
                    rcases HLD.out with r | ⟨r, _⟩
                    · rw [HL2.out]; exact r
                    · have : ¬ 0 < l2 := fun q => hgo ⟨r, q⟩
                      omega)
                  have HZN : Hid (∀ i, i < ws.length → Ren.yr ys0 i < 0 → (y : Int) ≤ Ren.A ws i) := Lib.hid (fun i hi hyi => by
                    cases more with
                    | false => exact HMO.out rfl i hi hyi
                    | true =>
                      have h0 : l2 = 0 := by
                        have : ¬ 0 < l2 := fun q => hgo ⟨rfl, q⟩
                        omega
                      have := Ren.left_zero (by rw [← HL2.out]; exact h0) i hi
                      omega)
                  clear HLD HMO
                  cases more with
                  | false =>
                    clear hgo
                    go_wp2
                    go_roundw
                    case rel => exact ⟨y, ys0, ok0, rfl, by rw [HL2.out], HPN.out, hyl, HZN, HY.out, HX.out⟩
                    case measure => (have hm := HLT.out; simp [intOf]; omega)
                  | true =>
                    have h0 : l2 = 0 := by
                      have : ¬ 0 < l2 := fun q => hgo ⟨rfl, q⟩
                      omega
                    clear hgo
                    subst h0
                    go_wp2
                    go_roundw
                    case rel => exact ⟨y, ys0, ok0, rfl, by rw [← HL2.out], HPN.out, hyl, HZN, HY.out, HX.out⟩
                    case measure => (have hm := HLT.out; simp [intOf]; omega)
        · have hlf0 : lf = 0 := by omega
          have HD := Lib.hid (Ren.pn_done HPN.out (by rw [← HLF.out]; exact hlf0) hyl)
          have hyln : ys.length = n := by rw [HYS.out, HWS.out]
          have HF : Hid (PlannedRet w ws p (.returned (.tuple #[.slice (some ⟨w.heap.size, 0, none⟩) n n, .bool ok])) wr) := Lib.hid ⟨some ⟨w.heap.size, 0, none⟩, n, ys, ok, by rw [hyln], sl_block HY.out rfl, by rw [hyln]; exact hl, HD.out, HX.out⟩
          subst hlf0
          clear hyln hyl h0 hlf60
          go_wp2
          go_ret2
          exact HF.out
end Go.Proofs.Ytnijfndpefkoeaa
