import Derived.Test.YtbhcaniopdgjkaaPof3
namespace Go.Proofs.Ytbhcaniopdgjkaa
open Go Go.Proofs Go.RowKit
open Plain (SiteD)
set_option maxHeartbeats 1000000
set_option maxRecDepth 100000
/-- New lists of sites. -/
def QRet (w : World) (P : List (List Int)) (e : Ending) (w' : World) : Prop := ∃ v, e = .returned v ∧ PV w' v P ∧ Ext w w'
theorem PartsOf_c (A : Option Addr) (L : List SiteD) (c1 : Nat) (w : World) (hL : L.length ≤ 10) (h1 : Sites w A L) :
    Calls Try.prog 23 #[.slice A L.length c1] w (QRet w (intsL (Plain.partsS L.length (Plain.rounds (adjF L) L.length L.length)))) := by
  obtain ⟨q, hq⟩ : ∃ q, q = L.length := ⟨_, rfl⟩
  have HL0 : Hid (Labs w (w.alloc (.cells (labRow q fun _ => 0) 3)) w.heap.size q (fillTo 0)) := by
    refine ⟨(Ext.refl w).alloc _, Nat.le_refl _, ?_⟩
    simp only [alloc_heap, if_true]
    rw [labRow_congr (f := fun _ => 0) (g := fillTo 0)]
    intro k _
    simp [fillTo]
  have hmk := make_run w q (by omega)
  rw [mkRow_lab] at hmk
  obtain ⟨RES, hres⟩ : ∃ RES, RES = intsL (Plain.partsS L.length (Plain.rounds (adjF L) L.length L.length)) := ⟨_, rfl⟩
  rw [← hres]
  have HRES := Lib.hid hres
  rw [← hq] at hL ⊢
  have HQ := Lib.hid hq
  have H1 := Lib.hid h1
  obtain ⟨i0, hi', hz0, hz1, hz2⟩ := info_parts info3
  have HI := Lib.hid hi'
  have HZ0 := Lib.hid hz0
  have HZ1 := Lib.hid hz1
  have HZ2 := Lib.hid hz2
  obtain ⟨j0, hj', hy0, hy1, hy2⟩ := info_parts info23
  have HJ := Lib.hid hj'
  have HY0 := Lib.hid hy0
  have HY1 := Lib.hid hy1
  have HY2 := Lib.hid hy2
  clear hq h1 hi' hz0 hz1 hz2 hj' hy0 hy1 hy2 hres
  go_enter Try.func23, Try.ntmps23
  go_wp2
  generalize w.alloc (.cells (labRow q fun _ => 0) 3) = W1 at HL0 ⊢
  clear hmk
  go_loopw [4] (fun i wr => ∃ k : Nat, k ≤ q ∧ i = .int .i64 k ∧ Labs w wr w.heap.size q (fillTo k)) (fun i _ => q - (intOf i).toNat)
  case atStart => exact ⟨0, Nat.zero_le _, rfl, HL0.out⟩
  case round =>
    clear HL0
    obtain ⟨k, hk, rfl, hr⟩ := hrel
    by_cases hlt : k < q
    · have e1 := hr.cell hlt
      have z1 := hr.z k
      have HN := Lib.hid (hr.set hlt k)
      rw [fillTo_succ] at HN
      clear hr
      go_wp2
      exact ⟨⟨k + 1, by omega, by go_num, HN.out⟩, by simp [intOf]; omega⟩
    · have hkq : k = q := by omega
      subst hkq
      have HR0 := Lib.hid (hr.first L 0 rfl)
      clear hr hlt hk
      have HR1 : Hid (Labs w wr w.heap.size k (Plain.rounds (adjF L) L.length 0)) := by
        show Labs _ _ _ _ _
        have := HR0.out
        rw [HQ.out] at this ⊢
        exact this
      clear HR0
      obtain ⟨q, rfl⟩ : ∃ q, q = k := ⟨_, rfl⟩
      obtain ⟨W2, rfl⟩ : ∃ W2, W2 = wr := ⟨_, rfl⟩
      go_wp2
      go_loopw [5] (fun i wr => ∃ r : Nat, r ≤ q ∧ i = .int .i64 r ∧ Labs w wr w.heap.size q (Plain.rounds (adjF L) L.length r)) (fun i _ => q - (intOf i).toNat)
      case atStart => exact ⟨0, Nat.zero_le _, rfl, HR1.out⟩
      case round =>
        clear HR1
        obtain ⟨r, hr, rfl, hl⟩ := hrel
        have HLA := Lib.hid hl
        clear hl
        by_cases hrq : r < q
        · obtain ⟨f, hf⟩ : ∃ f, f = Plain.rounds (adjF L) L.length r := ⟨_, rfl⟩
          have HF := Lib.hid hf
          rw [← hf] at HLA
          clear hf
          go_wp2
          go_loopw [6] (fun i wr => ∃ x : Nat, x ≤ q ∧ i = .int .i64 x ∧ Labs w wr w.heap.size q (roundTo L x f)) (fun i _ => q - (intOf i).toNat)
          case atStart => exact ⟨0, Nat.zero_le _, rfl, HLA.out⟩
          case round =>
            clear HLA
            obtain ⟨i, hi, rfl, hl⟩ := hrel
            have HLA := Lib.hid hl
            clear hl
            by_cases hiq : i < q
            · obtain ⟨g, hg⟩ : ∃ g, g = roundTo L i f := ⟨_, rfl⟩
              have HG := Lib.hid hg
              rw [← hg] at HLA
              clear hg
              obtain ⟨si, hsi⟩ : ∃ s, L[i]? = some s := ⟨_, List.getElem?_eq_getElem (by rw [← HQ.out]; exact hiq)⟩
              obtain ⟨b, o, rfl, hsite⟩ := H1.out i si hsi
              obtain ⟨Zi, zci, ki1, _, ki2, _, ki3⟩ := hsite.zones
              have HSI := Lib.hid hsi
              have HKI1 := Lib.hid ki1
              have HKI3 := Lib.hid ki3
              have hki2 : si.zones.length ≤ maxLen := by omega
              clear hsi hsite ki1 ki3 ki2
              go_wp2
              go_loopw [7] (fun i' wr => ∃ x : Nat, x ≤ q ∧ i' = .int .i64 x ∧ Labs w wr w.heap.size q (rowTo L i x g)) (fun i _ => q - (intOf i).toNat)
              case atStart => exact ⟨0, Nat.zero_le _, rfl, HLA.out⟩
              case round =>
                clear HLA
                obtain ⟨k, hk, rfl, hl⟩ := hrel
                have HLA := Lib.hid hl
                clear hl
                by_cases hkq : k < q
                · have HSU := Lib.hid (rowTo_succ L i k g)
                  obtain ⟨h, hh⟩ : ∃ h, h = rowTo L i k g := ⟨_, rfl⟩
                  rw [← hh] at HLA HSU
                  clear hh
                  have hkl : k < L.length := by rw [← HQ.out]; exact hkq
                  obtain ⟨sk, hsk⟩ : ∃ s, L[k]? = some s := ⟨_, List.getElem?_eq_getElem hkl⟩
                  obtain ⟨_, _, hbo, hsite⟩ := H1.out k sk hsk
                  cases hbo
                  obtain ⟨Zk, zck, kk1, _, kk2, _, kk3⟩ := hsite.zones
                  have hx0 := HLA.out.x
                  have f1 := hx0.cell HKI1.out
                  have f2 := hx0.cell kk1
                  have HME := Lib.hid (fun w' (x : Ext wr w') => meets_c Zi Zk si.zones sk.zones zci zck w' hki2 (by omega) ((HKI3.out.ext hx0).ext x) ((kk3.ext hx0).ext x))
                  have HAD : Hid (meetsB si.zones sk.zones = adjF L i k) := by
                    show _ = _
                    unfold adjF Plain.zonesAt
                    rw [Int.toNat_natCast, Int.toNat_natCast, HSI.out, hsk]; rfl
                  rw [HAD.out] at HME
                  have e1 := HLA.out.cell hkq
                  have e2 := HLA.out.cell hiq
                  have z2 := HLA.out.z i
                  have hk0 : (0 : Int) ≤ (k : Int) := by omega
                  have hk1 : (k : Int) < (q : Int) := by omega
                  have hi0 : (0 : Int) ≤ (i : Int) := by omega
                  have hi1 : (i : Int) < (q : Int) := by omega
                  clear hsk hsite kk1 kk2 kk3 hx0
                  cases had : adjF L i k with
                  | false =>
                    rw [had] at HME
                    have HE : Hid (rowTo L i (k + 1) g = h) := HSU.out.trans (relax_no (.inl had))
                    clear had
                    go_wp2
                    go_quiet ((go_at_call 58; exact (HME.out _ ((Ext.refl _).drewN _)).mono fun e w7 h => ⟨h.1, _, h.2.symm⟩))
                    go_wp2
                    exact ⟨⟨k + 1, by omega, by go_num, by rw [HE.out]; exact HLA.out.ext ((Ext.refl _).drewN _)⟩, by simp [intOf]; omega⟩
                  | true =>
                    rw [had] at HME
                    by_cases hlt : h k < h i
                    · have HE : Hid (rowTo L i (k + 1) g = Plain.upd h i (h k)) := HSU.out.trans (relax_yes had hlt)
                      have hdec : decide ((h k : Int) < (h i : Int)) = true := decide_eq_true (by omega)
                      clear had hdec
                      go_wp2
                      go_quiet ((go_at_call 58; exact (HME.out _ ((Ext.refl _).drewN _)).mono fun e w7 h => ⟨h.1, _, h.2.symm⟩))
                      go_wp2
                      exact ⟨⟨k + 1, by omega, by go_num, by rw [HE.out]; exact (HLA.out.ext ((Ext.refl _).drewN _)).set hiq _⟩, by simp [intOf]; omega⟩
                    · have HE : Hid (rowTo L i (k + 1) g = h) := HSU.out.trans (relax_no (.inr hlt))
                      have hdec : decide ((h k : Int) < (h i : Int)) = false := decide_eq_false (by omega)
                      clear had hdec
                      go_wp2
                      go_quiet ((go_at_call 58; exact (HME.out _ ((Ext.refl _).drewN _)).mono fun e w7 h => ⟨h.1, _, h.2.symm⟩))
                      go_wp2
                      exact ⟨⟨k + 1, by omega, by go_num, by rw [HE.out]; exact HLA.out.ext ((Ext.refl _).drewN _)⟩, by simp [intOf]; omega⟩
                · have hkq2 : k = L.length := by rw [← HQ.out]; omega
                  have HE : Hid (rowTo L i k g = roundTo L (i + 1) f) := by
                    show _ = _
                    rw [hkq2, rowTo_all, roundTo_succ, HG.out]
                  clear hkq2
                  go_wp2
                  exact ⟨⟨i + 1, by omega, by go_num, by rw [← HE.out]; exact HLA.out⟩, by simp [intOf]; omega⟩
            · have hiq2 : i = L.length := by rw [← HQ.out]; omega
              have HE : Hid (roundTo L i f = Plain.rounds (adjF L) L.length (r + 1)) := by
                show _ = _
                rw [hiq2, roundTo_all, HF.out]; rfl
              clear hiq2
              go_wp2
              exact ⟨⟨r + 1, by omega, by go_num, by rw [← HE.out]; exact HLA.out⟩, by simp [intOf]; omega⟩
        · have hrq2 : r = L.length := by rw [← HQ.out]; omega
          obtain ⟨f, hf⟩ : ∃ f, f = Plain.rounds (adjF L) L.length r := ⟨_, rfl⟩
          have HF : Hid (RES = outL f q q) := by
            show _ = _
            rw [HRES.out, outL_all, hf, hrq2, HQ.out]
          rw [← hf] at HLA
          clear hf hrq2
          obtain ⟨Wb, rfl⟩ : ∃ Wb, Wb = wr := ⟨_, rfl⟩
          go_wp2
          go_loopw [8, 9] (fun v i wr => ∃ x : Nat, x ≤ q ∧ i = .int .i64 x ∧ ∃ vs, OutQ Wb wr (outL f q x) v vs) (fun _ i _ => q - (intOf i).toNat)
          case atStart => exact ⟨0, Nat.zero_le _, rfl, [], OutQ.start Wb⟩
          case round =>
            obtain ⟨i, hi, rfl, vs, ho⟩ := hrel
            have HO := Lib.hid ho
            obtain ⟨VA, vc, rfl, _, _, _, _⟩ := own_sl ho.own
            have hwb := ho.x.size
            clear ho
            obtain ⟨M, hM⟩ : ∃ M, outL f q i = M := ⟨_, rfl⟩
            have hMl : M.length ≤ i := by rw [← hM]; exact outL_len f q i
            have HSU := Lib.hid (outL_succ f q i)
            rw [hM] at HO HSU ⊢
            have HMM := Lib.hid hM
            clear hM
            by_cases hiq : i < q
            · obtain ⟨Wi, rfl⟩ : ∃ Wi, Wi = wr := ⟨_, rfl⟩
              go_wp2
              go_loopw [10, 11] (fun v i' wr => ∃ x : Nat, x ≤ q ∧ i' = .int .i64 x ∧ FillI Wi wr (partL f i x) v) (fun _ i _ => q - (intOf i).toNat)
              case atStart => exact ⟨0, Nat.zero_le _, rfl, fill0 Wi⟩
              case round =>
                obtain ⟨k, hk, rfl, hr⟩ := hrel
                have HR := Lib.hid hr
                obtain ⟨PA, pc, rfl, _, _, _, _⟩ := own_sl hr.own
                have hlw := hr.x.size
                have HLW := Lib.hid (HLA.out.ext (HO.out.x.trans hr.x))
                clear hr
                have hlen := partL_len f i k
                have HNX := Lib.hid (partL_succ f i k)
                obtain ⟨N, hN⟩ : ∃ N, partL f i k = N := ⟨_, rfl⟩
                rw [hN] at HR HNX hlen ⊢
                have HNN := Lib.hid hN
                clear hN
                by_cases hkq : k < q
                · have e1 := HLW.out.cell hkq
                  by_cases hfk : f k = i
                  · have HS2 : Hid (partL f i (k + 1) = N ++ [(k : Int)]) := by show _ = _; rw [HNX.out]; simp [hfk]
                    rw [hfk] at e1
                    clear hfk
                    go_wp2_with (at_builtin; refine wpList_append_sl rfl _ _ 23 rfl Wi.heap.size 3 i0 (.int .i64 0) 1 8 Try.underlying23 HI.out HZ0.out HZ1.out HZ2.out rfl (by decide) _ N.length (N.map (Value.int .i64)) rfl (HR.out.own.alloc _) (some ⟨wr.heap.size, 0, none⟩) 1 1 [.int .i64 (k : Int)] rfl (slc_new wr [.int .i64 (k : Int)] 3) rfl (by simp [Value.oneCell']) (by unfold maxLen; omega) (by omega) (by simp; omega) ?_; intro v3 w3 ho3 hg3 _h3; have HN3 := Lib.hid (HR.out.add ho3 hg3); obtain ⟨A3, c3', rfl, _, _, _, _⟩ := own_sl ho3; clear ho3 hg3 _h3)
                    exact ⟨⟨k + 1, by omega, by go_num, by rw [HS2.out]; exact HN3.out⟩, by simp [intOf]; omega⟩
                  · have HS2 : Hid (partL f i (k + 1) = N) := by show _ = _; rw [HNX.out]; simp [hfk]
                    have hbe : ((f k : Int) == (i : Int)) = false := by simp; omega
                    clear hfk
                    go_wp2
                    exact ⟨⟨k + 1, by omega, by go_num, by rw [HS2.out]; exact HR.out⟩, by simp [intOf]; omega⟩
                · have hkq2 : k = q := by omega
                  have HPP : Hid (partL f i q = N) := by show _ = _; rw [← HNN.out, hkq2]
                  rw [HPP.out] at HSU
                  clear hkq2
                  by_cases hN0 : N.length = 0
                  · have HS2 : Hid (outL f q (i + 1) = M) := by show _ = _; rw [HSU.out, if_pos hN0, List.append_nil]
                    rw [hN0]
                    clear hN0
                    go_wp2
                    exact ⟨⟨i + 1, by omega, by go_num, vs, by rw [HS2.out]; exact HO.out.ext HR.out.x⟩, by simp [intOf]; omega⟩
                  · have HS2 : Hid (outL f q (i + 1) = M ++ [N]) := by show _ = _; rw [HSU.out, if_neg hN0]
                    obtain ⟨blk, cur, rfl, k1, k2, k3, k4, k5, k6⟩ := row_form HR.out.own hN0
                    have HK1 := Lib.hid k1
                    have HK2 := Lib.hid k2
                    have HK6 := Lib.hid k6
                    have hgt : decide ((N.length : Int) > 0) = true := decide_eq_true (by omega)
                    have HOW := Lib.hid (HO.out.ext HR.out.x)
                    have HVB : Hid ((Value.slice VA M.length vc).ownBlock ≠ some blk) := by
                      intro he
                      have := (own_lt HO.out.own he).2
                      omega
                    have hwbl : Wb.heap.size ≤ blk := by omega
                    clear k1 k2 k6
                    go_wp2_with (at_builtin; refine wpList_append_sl rfl _ _ 29 rfl Wb.heap.size 23 j0 (.slice none 0 0) 1 24 Try.underlying29 HJ.out HY0.out HY1.out HY2.out rfl (by decide) _ M.length vs rfl (HOW.out.own.alloc _) (some ⟨wr.heap.size, 0, none⟩) 1 1 [.slice (some ⟨blk, 0, none⟩) N.length pc] rfl (slc_new wr [.slice (some ⟨blk, 0, none⟩) N.length pc] 23) rfl (by simp [Value.oneCell']) (by unfold maxLen; omega) (by omega) (by simp; omega) ?_; intro v3 w3 ho3 hg3 h3; have HN3 := Lib.hid (HOW.out.add HK2.out hwbl k3 k4 k5 HK6.out HVB.out ho3 hg3 h3); obtain ⟨A3, c3', rfl, _, _, _, _⟩ := own_sl ho3; clear ho3 hg3 h3)
                    exact ⟨⟨i + 1, by omega, by go_num, _, by rw [HS2.out]; exact HN3.out⟩, by simp [intOf]; omega⟩
            · have hiq2 : i = q := by omega
              have HE : Hid (RES = M) := by show _ = _; rw [HF.out, ← HMM.out, hiq2]
              clear hiq2
              go_wp2
              go_ret
              exact ⟨_, rfl, by rw [HE.out]; exact HO.out.pv, HLA.out.x.trans HO.out.x⟩
end Go.Proofs.Ytbhcaniopdgjkaa
