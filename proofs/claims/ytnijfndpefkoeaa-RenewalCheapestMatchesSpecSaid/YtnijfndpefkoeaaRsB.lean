import Derived.Test.YtnijfndpefkoeaaRnX
namespace Go.Proofs.Ytnijfndpefkoeaa
open Go Go.Proofs Go.RowKit
set_option maxHeartbeats 6400000
set_option maxRecDepth 100000
theorem Prs.base {w : World} {A : Option Addr} {L : List (Int × Int)} (h : Prs w A L) (hn : 0 < L.length) : ∃ b o, A = some ⟨b, o, none⟩ := SlC.base h (by rw [prsV_len]; omega)
/-- A medium of a row: its cells, its window. -/
theorem med_at {w : World} {b o : Nat} {L : List (Int × Int)} (h : Prs w (some ⟨b, o, none⟩) L) (hok : ∀ q ∈ L, okM q = true) {i : Nat} (hi : i < L.length) :
    ∃ x0 x1 fr to_ : Int, w.cell? ⟨b, o + i * 2, none⟩ = some (.int .i64 x0) ∧ w.cell? ⟨b, o + i * 2 + 1, none⟩ = some (.int .i64 x1) ∧ Ren.A (wsF L) i = fr ∧ Ren.B (wsF L) i = to_ ∧ (0 ≤ fr ∧ fr ≤ to_ ∧ fr ≤ 11000 ∧ to_ ≤ 11000) ∧
      ∀ W, Calls Try.prog 13 #[.agg #[.int .i64 x0, .int .i64 x1]] W (TwoRet W (fr, to_)) := by
  obtain ⟨m, hm⟩ : ∃ m, L[i]? = some m := ⟨_, List.getElem?_eq_getElem hi⟩
  obtain ⟨b', o', e, m0, m1⟩ := h.at_ hm
  have hmo := hok m (List.mem_of_getElem? hm)
  obtain ⟨ha, hb⟩ := ws_at hm
  have hl := win_low hmo
  cases e
  exact ⟨m.1, m.2, (winF m).1, (winF m).2, m0, m1, ha, hb, hl, fun W => WindowOf_c m W hmo⟩
def GoodP (ws : List (Int × Int)) (p i k : Nat) : Prop := Ren.A ws i ≤ Ren.B ws k → (Ren.spanN ws (Ren.A ws i) (Ren.B ws k) : Int) ≤ p * (Ren.B ws k - Ren.A ws i + 1)
def PossRet (w : World) (ws : List (Int × Int)) (p : Nat) (e : Ending) (w' : World) : Prop := Ext w w' ∧ ∃ b : Bool, e = .returned (.bool b) ∧ (b = true ↔ Ren.Possible ws p)
theorem Possible_c (A : Option Addr) (L : List (Int × Int)) (c p : Nat) (w : World) (hl : L.length ≤ 60) (h1 : Prs w A L) (hok : ∀ q ∈ L, okM q = true) (hp2 : p ≤ 60) : Calls Try.prog 19 #[.slice A L.length c, .int .i64 (p : Int)] w (PossRet w (wsF L) p) := by
  have HBS := Lib.hid (fun h => h1.base h)
  have H1 := Lib.hid h1
  have HOK := Lib.hid hok
  have HWS := Lib.hid (ws_len L)
  have HMD := Lib.hid (fun (b o : Nat) (e : A = some ⟨b, o, none⟩) (W : World) (x : Ext w W) (i : Nat) (hi : i < L.length) => med_at (w := W) (b := b) (o := o) (by rw [← e]; exact H1.out.ext x) HOK.out hi)
  obtain ⟨ws, hwsd⟩ : ∃ ws, ws = wsF L := ⟨_, rfl⟩
  rw [← hwsd] at HWS HMD ⊢
  obtain ⟨n, hn⟩ : ∃ n, n = L.length := ⟨_, rfl⟩
  rw [← hn] at hl HWS HBS HMD ⊢
  have HT : Hid (∀ W, Ext w W → (∀ i k, i < n → k < n → GoodP ws p i k) → PossRet w ws p (.returned (.bool true)) W) := Lib.hid (fun W x h => ⟨x, true, rfl, fun _ => fun i k hi hk => h i k (by rw [← HWS.out]; exact hi) (by rw [← HWS.out]; exact hk), fun _ => rfl⟩)
  have HF : Hid (∀ W i k, Ext w W → i < n → k < n → ¬ GoodP ws p i k → PossRet w ws p (.returned (.bool false)) W) := Lib.hid (fun W i k x hi hk h => ⟨x, false, rfl, fun q => (by cases q), fun q => absurd (q i k (by rw [HWS.out]; exact hi) (by rw [HWS.out]; exact hk)) h⟩)
  clear h1 hok hwsd H1 HOK hn
  go_enter Try.func19, Try.ntmps19
  go_upto_region 2 with (fail)
  go_loopw [5] (fun t5 wx => ∃ i : Nat, t5 = .int .i64 (i : Int) ∧ i ≤ n ∧ Hid (∀ i' k, i' < i → k < n → GoodP ws p i' k) ∧ Ext w wx) (fun t5 _ => n - (intOf t5).toNat)
  case atStart => exact ⟨0, rfl, Nat.zero_le _, Lib.hid (fun i' k h => by omega), Ext.refl w⟩
  case round =>
    obtain ⟨i, rfl, hin, hgd, hx⟩ := hrel
    have HX := Lib.hid hx
    have HGD := Lib.hid hgd.out
    clear hgd hx
    by_cases hlt : i < n
    · obtain ⟨b, o, hA⟩ := HBS.out (by omega)
      have HMA := Lib.hid (HMD.out b o hA)
      subst hA
      obtain ⟨x0, x1, fr, to_, m0, m1, ha, hb, ⟨b1, b2, b3, b4⟩, hc⟩ := HMA.out wr HX.out i hlt
      have HA := Lib.hid ha
      have HCA := Lib.hid hc
      clear ha hb hc HMD HBS
      go_upto_region 6 with (go_at_call 13; refine (HCA.out _).mono ?_; rintro e w2 ⟨rfl, hx2⟩; have HX2 := Lib.hid (HX.out.trans hx2); clear hx2)
      clear m0 m1 HCA
      go_loopw [8] (fun t8 wx => ∃ k : Nat, t8 = .int .i64 (k : Int) ∧ k ≤ n ∧ Hid (∀ k', k' < k → GoodP ws p i k') ∧ Ext w wx) (fun t8 _ => n - (intOf t8).toNat)
      case atStart => exact ⟨0, rfl, Nat.zero_le _, Lib.hid (fun k' h => by omega), HX2.out⟩
      case round =>
        obtain ⟨k, rfl, hkn, hgk, hx⟩ := hrel
        have HXK := Lib.hid hx
        have HGK := Lib.hid hgk.out
        clear hgk hx
        by_cases hltk : k < n
        · obtain ⟨y0, y1, fr2, to2, m0, m1, ha, hb, ⟨d1, d2, d3, d4⟩, hc⟩ := HMA.out wr HXK.out k hltk
          have HBK := Lib.hid hb
          have HCK := Lib.hid hc
          clear ha hb hc
          go_upto_region 11 with (go_at_call 13; refine (HCK.out _).mono ?_; rintro e w3 ⟨rfl, hx2⟩; have HX3 := Lib.hid (HXK.out.trans hx2); clear hx2)
          clear m0 m1 HCK
          go_loopw [11, 12] (fun t11 t12 wx => ∃ j : Nat, t12 = .int .i64 (j : Int) ∧ t11 = .int .i64 ((Ren.cnt j (Ren.inSpan ws fr to2) : Nat) : Int) ∧ j ≤ n ∧ Ext w wx) (fun _ t12 _ => n - (intOf t12).toNat)
          case atStart => exact ⟨0, rfl, rfl, Nat.zero_le _, HX3.out⟩
          case round =>
            obtain ⟨j, rfl, rfl, hjn, hx⟩ := hrel
            have HXJ := Lib.hid hx
            have hcl := Ren.cnt_le j (Ren.inSpan ws fr to2)
            obtain ⟨q, hq⟩ : ∃ q, q = Ren.cnt j (Ren.inSpan ws fr to2) := ⟨_, rfl⟩
            have HQ := Lib.hid hq
            rw [← hq] at hcl ⊢
            clear hx hq
            by_cases hltj : j < n
            · obtain ⟨z0, z1, fr3, to3, m0, m1, ha, hb, ⟨f1, f2, f3, f4⟩, hc⟩ := HMA.out wr HXJ.out j hltj
              have HSP : Hid (Ren.inSpan ws fr to2 j = (decide (fr ≤ fr3) && decide (to3 ≤ to2))) := Lib.hid (by unfold Ren.inSpan; rw [ha, hb])
              have HCJ := Lib.hid hc
              clear ha hb hc
              have HCS := Lib.hid (Ren.cnt_succ j (Ren.inSpan ws fr to2))
              rw [← HQ.out, HSP.out] at HCS
              clear HSP HQ
              have wq : IntKind.i64.wrap ((q : Int) + 1) = (q : Int) + 1 := IntWalk.i64_in _ (by omega)
              have wj : IntKind.i64.wrap ((j : Int) + 1) = (j : Int) + 1 := IntWalk.i64_in _ (by omega)
              by_cases c1 : fr ≤ fr3
              · by_cases c2 : to3 ≤ to2
                · have HE : Hid (Ren.cnt (j + 1) (Ren.inSpan ws fr to2) = q + 1) := Lib.hid (by rw [HCS.out, decide_eq_true c1, decide_eq_true c2]; rfl)
                  clear HCS
                  go_wp2_with (go_at_call 13; refine (HCJ.out _).mono ?_; rintro e w4 ⟨rfl, hx2⟩; have HX4 := Lib.hid (HXJ.out.trans hx2); clear hx2)
                  go_roundw
                  case rel => exact ⟨j + 1, by go_num, by rw [HE.out]; go_num, hltj, HX4.out⟩
                  case measure => simp [intOf]; omega
                · have HE : Hid (Ren.cnt (j + 1) (Ren.inSpan ws fr to2) = q) := Lib.hid (by rw [HCS.out, decide_eq_true c1, decide_eq_false c2]; rfl)
                  clear HCS
                  go_wp2_with (go_at_call 13; refine (HCJ.out _).mono ?_; rintro e w4 ⟨rfl, hx2⟩; have HX4 := Lib.hid (HXJ.out.trans hx2); clear hx2)
                  go_roundw
                  case rel => exact ⟨j + 1, by go_num, by rw [HE.out], hltj, HX4.out⟩
                  case measure => simp [intOf]; omega
              · have HE : Hid (Ren.cnt (j + 1) (Ren.inSpan ws fr to2) = q) := Lib.hid (by rw [HCS.out, decide_eq_false c1]; rfl)
                clear HCS
                go_wp2_with (go_at_call 13; refine (HCJ.out _).mono ?_; rintro e w4 ⟨rfl, hx2⟩; have HX4 := Lib.hid (HXJ.out.trans hx2); clear hx2)
                go_roundw
                case rel => exact ⟨j + 1, by go_num, by rw [HE.out], hltj, HX4.out⟩
                case measure => simp [intOf]; omega
            · have hjn2 : j = n := by omega
              have HGI : Hid (GoodP ws p i k ↔ (fr ≤ to2 → (q : Int) ≤ p * (to2 - fr + 1))) := Lib.hid (by
                unfold GoodP Ren.spanN
                rw [HA.out, HBK.out, HQ.out, HWS.out, hjn2])
              obtain ⟨e, he⟩ : ∃ e : Int, e = (p : Int) * (to2 - fr + 1) := ⟨_, rfl⟩
              rw [← he] at HGI
              have hwk : IntKind.i64.wrap ((k : Int) + 1) = (k : Int) + 1 := IntWalk.i64_in _ (by omega)
              clear HQ hjn2
              by_cases c1 : fr ≤ to2
              · have he1 : 0 ≤ e := by rw [he]; exact Int.mul_nonneg (by omega) (by omega)
                have he2 : e ≤ 660060 := by
                  rw [he]
                  exact Int.le_trans (Int.mul_le_mul (show (p : Int) ≤ 60 by omega) (show to2 - fr + 1 ≤ 11001 by omega) (by omega) (by omega)) (by decide)
                have w1 : IntKind.i64.wrap (to2 - fr) = to2 - fr := IntWalk.i64_in _ (by omega)
                have w2 : IntKind.i64.wrap (to2 - fr + 1) = to2 - fr + 1 := IntWalk.i64_in _ (by omega)
                have w3 : IntKind.i64.wrap ((p : Int) * (to2 - fr + 1)) = e := by rw [← he]; exact IntWalk.i64_in _ (by omega)
                clear he
                by_cases c2 : e < (q : Int)
                · have HFR := Lib.hid (HF.out wr i k HXJ.out hlt hltk (by rw [HGI.out]; intro r; have := r c1; omega))
                  clear HGI
                  go_wp2
                  go_ret
                  exact HFR.out
                · have HGN : Hid (∀ k', k' < k + 1 → GoodP ws p i k') := Lib.hid (fun k' hk' => by
                    by_cases e2 : k' = k
                    · rw [e2, HGI.out]; intro _; omega
                    · exact HGK.out k' (by omega))
                  clear HGI
                  go_wp2
                  go_roundw
                  case rel => exact ⟨k + 1, by go_num, hltk, HGN, HXJ.out⟩
                  case measure => simp [intOf]; omega
              · have HGN : Hid (∀ k', k' < k + 1 → GoodP ws p i k') := Lib.hid (fun k' hk' => by
                  by_cases e2 : k' = k
                  · rw [e2, HGI.out]; intro r; exact absurd r c1
                  · exact HGK.out k' (by omega))
                clear HGI he
                go_wp2
                go_roundw
                case rel => exact ⟨k + 1, by go_num, hltk, HGN, HXJ.out⟩
                case measure => simp [intOf]; omega
        · have hke : k = n := by omega
          have HGN : Hid (∀ i' k, i' < i + 1 → k < n → GoodP ws p i' k) := Lib.hid (fun i' k' hi' hk' => by
            by_cases e2 : i' = i
            · rw [e2]; exact HGK.out k' (by omega)
            · exact HGD.out i' k' (by omega) hk')
          go_wp2
          go_roundw
          case rel => exact ⟨i + 1, by go_num, hlt, HGN, HXK.out⟩
          case measure => simp [intOf]; omega
    · have HTR := Lib.hid (HT.out wr HX.out (fun i' k hi' hk => HGD.out i' k (by omega) hk))
      go_wp2
      go_ret
      exact HTR.out
end Go.Proofs.Ytnijfndpefkoeaa
