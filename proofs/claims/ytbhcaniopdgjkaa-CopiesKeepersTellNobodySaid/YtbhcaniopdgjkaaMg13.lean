import Derived.Test.YtbhcaniopdgjkaaMg12
import Derived.Test.YtbhcaniopdgjkaaMg11
namespace Go.Proofs.Ytbhcaniopdgjkaa
open Go Go.Proofs Go.RowKit
open Plain (SiteD)
set_option maxHeartbeats 3200000
set_option maxRecDepth 100000
theorem nums_in (a b : Int) : (inB a 0 1000000 = true ∧ inB b 0 90 = true) ↔ ¬ (a < 0 ∨ 1000000 < a ∨ b < 0 ∨ 90 < b) := by
  unfold inB
  simp only [decide_eq_true_eq]
  omega
theorem RisingX_c (A : Option Addr) (l : List Int) (c : Nat) (n : Int) (w : World) (hl : l.length ≤ maxLen) (hn : -1000000 ≤ n ∧ n ≤ 9223372036854775807) (h1 : Sl w .i64 A l) :
    Calls Try.prog 19 #[.slice A l.length c, .int .i64 n] w fun e w' => e = .returned (.int .i64 (Plain.risingC l n)) ∧ Ext w w' :=
  (RisingCode_c A l c n w hl hn h1).mono fun _ _ h => by
    obtain ⟨h, m, rfl⟩ := h
    exact ⟨h, (Ext.refl w).drewN m⟩
/-- What the search for an equal name has found. -/
def Found (L : List SiteD) (n : List UInt8) (k : Nat) (j : Nat) (v : Value) : Prop :=
  (v = .int .i64 0 ∧ noneS (fun t => t.name == n) L j) ∨ (v = .int .i64 8 ∧ ((L.take k).any fun t => t.name == n) = true)
theorem SitesFault_c (A : Option Addr) (L : List SiteD) (c1 : Nat) (w : World) (hL : L.length ≤ 9223372036854775807) (h1 : Sites w A L) :
    Calls Try.prog 17 #[.slice A L.length c1] w (FRet w (Plain.sitesF L)) := by
  obtain ⟨F, hF⟩ : ∃ F, Plain.sitesF L = F := ⟨_, rfl⟩
  rw [hF]
  have HF := Lib.hid hF
  clear hF
  obtain ⟨q, hq⟩ : ∃ q, q = L.length := ⟨_, rfl⟩
  rw [← hq] at hL ⊢
  have HQ := Lib.hid hq
  have H1 := Lib.hid h1
  clear hq h1
  by_cases h10 : 10 < q
  · have HV : Hid (F = (2, -1)) := by
      show F = (2, -1)
      rw [← HF.out, Plain.sitesF, if_pos (by rw [← HQ.out]; exact h10)]
    go_enter Try.func17, Try.ntmps17
    go_wp2_with (go_at_call 20; refine (At_c _ _ _).mono ?_; rintro e w3 ⟨rfl, rfl⟩)
    refine bodyPost_ret (v := .agg #[.int .i64 2, .int .i64 (-1)]) (fault_res Try.results17 _ _ w.heap.size (2, -1) rfl ?_) rfl ⟨by rw [HV.out], ?_⟩
    · exact (FBlk.new w 2 (-1)).alloc _
    · exact ((Ext.refl w).alloc _).alloc _
  · have h10' : q ≤ 10 := by omega
    go_enter Try.func17, Try.ntmps17
    go_wp2
    go_loopw [3] (fun i wr => ∃ k : Nat, k ≤ q ∧ i = .int .i64 k ∧ okTo L k ∧ Ext w wr ∧ FBlk wr w.heap.size (0, 0)) (fun i _ => q - (intOf i).toNat)
    case atStart => exact ⟨0, Nat.zero_le _, rfl, okTo_zero _, (Ext.refl w).alloc _, FBlk.new w 0 0⟩
    case round =>
      obtain ⟨k, hk, rfl, hr, hx, hb⟩ := hrel
      have HR := Lib.hid hr
      have HX := Lib.hid hx
      have HB := Lib.hid hb
      have z0 := hb.c0
      have z1 := hb.c1
      have y0 := hb.z 0
      have y1 := hb.z 1
      have hsz1 : w.heap.size < wr.heap.size := (Array.getElem?_eq_some_iff.1 hb).1
      clear hr hx hb
      by_cases hlt : k < q
      · have hkl : k < L.length := by rw [← HQ.out]; exact hlt
        obtain ⟨s, hs⟩ : ∃ s, L[k]? = some s := ⟨_, List.getElem?_eq_getElem hkl⟩
        obtain ⟨b, o, rfl, hsite⟩ := H1.out k s hs
        have HS := Lib.hid hs
        have HSI := Lib.hid (hsite.ext HX.out)
        obtain ⟨nm, n1, n2, n3⟩ := HSI.out.name
        obtain ⟨Z, zc, k1, _, k2, _, k3⟩ := HSI.out.zones
        have k4 := HSI.out.cost
        have k5 := HSI.out.wear
        have HN2 := Lib.hid n2
        have HXA := Lib.hid ((Ext.refl wr).alloc (.cells #[.string nm, .slice Z s.zones.length zc, .int .i64 s.cost, .int .i64 s.wear] 52))
        have HXS := Lib.hid (HX.out.trans HXA.out)
        have HBS := Lib.hid (HB.out.ext HXA.out)
        have HSB := Lib.hid (site_blk wr nm Z s.zones.length zc s.cost s.wear)
        have HNA := Lib.hid (fun w1 => IsName_c nm w1 n3)
        have HRI := Lib.hid (RisingX_c Z s.zones zc 12 _ (by unfold maxLen at k2 ⊢; omega) (by omega) (k3.ext HXA.out))
        rw [n2] at HNA
        clear hs hsite hkl n2 n3 k2 k3
        cases g1 : Plain.nameB s.name with
        | false =>
          have HE := Lib.hid (okTo_bad HR.out (by rw [← HQ.out]; exact h10') HS.out (by rw [siteC_name g1]; simp))
          rw [siteC_name g1] at HE
          rw [g1] at HNA; clear g1
          go_wp2_with (first | (go_at_call 53; refine (HNA.out _).mono ?_; rintro e w2 ⟨rfl, rfl⟩) | (go_at_call 20; refine (At_c _ _ _).mono ?_; rintro e w3 ⟨rfl, rfl⟩))
          refine bodyPost_ret (v := .agg #[.int .i64 7, .int .i64 (k : Int)]) (fault_res Try.results17 _ _ w.heap.size (_, _) rfl ?_) rfl ⟨by rw [← HF.out, HE.out], ?_⟩
          · exact ((HB.out.set _ _).alloc _).alloc _
          · exact ((HX.out.set2 _ _).alloc _).alloc _
        | true =>
          obtain ⟨r, hr⟩ : ∃ r, Plain.risingC s.zones 12 = r := ⟨_, rfl⟩
          rw [hr] at HRI
          rw [g1] at HNA
          have HG1 := Lib.hid g1
          have HRE := Lib.hid hr
          clear hr g1
          by_cases g2 : r = 0
          · subst g2
            by_cases g3 : s.cost < 0 ∨ 1000000 < s.cost ∨ s.wear < 0 ∨ 90 < s.wear
            · have HE := Lib.hid (okTo_bad HR.out (by rw [← HQ.out]; exact h10') HS.out (by rw [siteC_num HG1.out HRE.out g3]; simp))
              rw [siteC_num HG1.out HRE.out g3] at HE
              have HG3 := Lib.hid g3
              clear g3
              cases e1 : inB s.cost 0 1000000 with
              | false =>
                go_wp2_with (first | (go_at_call 53; refine (HNA.out _).mono ?_; rintro e w2 ⟨rfl, rfl⟩) | (go_at_call 19; refine HRI.out.mono ?_; rintro e w2 ⟨rfl, hx2⟩; have HX2 := Lib.hid (HXS.out.trans hx2); have hb2 := HBS.out.ext hx2; have hs2 := ext_blk hx2 HSB.out; have z0 := hb2.c0; have z1 := hb2.c1; have y0 := hb2.z 0; have y1 := hb2.z 1; have s0 := blk_cell hs2 0; have s1 := blk_cell hs2 1; have s2 := blk_cell hs2 2; have s3 := blk_cell hs2 3; have HB2 := Lib.hid hb2; have HS2 := Lib.hid hs2; have hlt2 : w.heap.size < w2.heap.size := Nat.lt_of_lt_of_le hsz1 (HXA.out.trans hx2).size; have hlt3 : wr.heap.size < w2.heap.size := new_lt hx2; have HXW := Lib.hid (HXA.out.trans hx2); clear hb2 hs2 hx2) | (go_at_call 29; refine (In_c _ _ _ _).mono ?_; rintro e w5 ⟨rfl, rfl⟩))
                go_loopw [5, 6] (fun v j wx => v = .int .i64 4 ∧ j = .int .i64 0 ∧ wx = w2) (fun _ _ _ => 0)
                case atStart => exact ⟨rfl, rfl, rfl⟩
                case round =>
                  obtain ⟨rfl, rfl, rfl⟩ := hrel
                  go_wp2_with (go_at_call 20; refine (At_c _ _ _).mono ?_; rintro e w3 ⟨rfl, rfl⟩)
                  all_goals refine bodyPost_ret (v := .agg #[.int .i64 4, .int .i64 (k : Int)]) (fault_res Try.results17 _ _ w.heap.size (_, _) rfl ?_) rfl ⟨by rw [← HF.out, HE.out], ?_⟩
                  all_goals first | exact (HB2.out.set _ _).alloc _ | exact (HX2.out.set2 _ _).alloc _
              | true =>
                have e2 : inB s.wear 0 90 = false := by
                  cases e2 : inB s.wear 0 90 with
                  | false => rfl
                  | true => exact absurd HG3.out ((nums_in _ _).1 ⟨e1, e2⟩)
                go_wp2_with (first | (go_at_call 53; refine (HNA.out _).mono ?_; rintro e w2 ⟨rfl, rfl⟩) | (go_at_call 19; refine HRI.out.mono ?_; rintro e w2 ⟨rfl, hx2⟩; have HX2 := Lib.hid (HXS.out.trans hx2); have hb2 := HBS.out.ext hx2; have hs2 := ext_blk hx2 HSB.out; have z0 := hb2.c0; have z1 := hb2.c1; have y0 := hb2.z 0; have y1 := hb2.z 1; have s0 := blk_cell hs2 0; have s1 := blk_cell hs2 1; have s2 := blk_cell hs2 2; have s3 := blk_cell hs2 3; have HB2 := Lib.hid hb2; have HS2 := Lib.hid hs2; have hlt2 : w.heap.size < w2.heap.size := Nat.lt_of_lt_of_le hsz1 (HXA.out.trans hx2).size; have hlt3 : wr.heap.size < w2.heap.size := new_lt hx2; have HXW := Lib.hid (HXA.out.trans hx2); clear hb2 hs2 hx2) | (go_at_call 29; refine (In_c _ _ _ _).mono ?_; rintro e w5 ⟨rfl, rfl⟩))
                go_loopw [5, 6] (fun v j wx => v = .int .i64 4 ∧ j = .int .i64 0 ∧ wx = w2) (fun _ _ _ => 0)
                case atStart => exact ⟨rfl, rfl, rfl⟩
                case round =>
                  obtain ⟨rfl, rfl, rfl⟩ := hrel
                  go_wp2_with (go_at_call 20; refine (At_c _ _ _).mono ?_; rintro e w3 ⟨rfl, rfl⟩)
                  all_goals refine bodyPost_ret (v := .agg #[.int .i64 4, .int .i64 (k : Int)]) (fault_res Try.results17 _ _ w.heap.size (_, _) rfl ?_) rfl ⟨by rw [← HF.out, HE.out], ?_⟩
                  all_goals first | exact (HB2.out.set _ _).alloc _ | exact (HX2.out.set2 _ _).alloc _
            · have HSC := Lib.hid (siteC_rest (b := L.take k) HG1.out HRE.out g3)
              obtain ⟨e1, e2⟩ := (nums_in _ _).2 g3
              clear g3
              go_wp2_with (first | (go_at_call 53; refine (HNA.out _).mono ?_; rintro e w2 ⟨rfl, rfl⟩) | (go_at_call 19; refine HRI.out.mono ?_; rintro e w2 ⟨rfl, hx2⟩; have HX2 := Lib.hid (HXS.out.trans hx2); have hb2 := HBS.out.ext hx2; have hs2 := ext_blk hx2 HSB.out; have z0 := hb2.c0; have z1 := hb2.c1; have y0 := hb2.z 0; have y1 := hb2.z 1; have s0 := blk_cell hs2 0; have s1 := blk_cell hs2 1; have s2 := blk_cell hs2 2; have s3 := blk_cell hs2 3; have HB2 := Lib.hid hb2; have HS2 := Lib.hid hs2; have hlt2 : w.heap.size < w2.heap.size := Nat.lt_of_lt_of_le hsz1 (HXA.out.trans hx2).size; have hlt3 : wr.heap.size < w2.heap.size := new_lt hx2; have HXW := Lib.hid (HXA.out.trans hx2); clear hb2 hs2 hx2) | (go_at_call 29; refine (In_c _ _ _ _).mono ?_; rintro e w5 ⟨rfl, rfl⟩))
              go_loopw [5, 6] (fun v j wx => ∃ m : Nat, m ≤ k ∧ j = .int .i64 m ∧ Found L s.name k m v ∧ Ext w2 wx) (fun _ j _ => k - (intOf j).toNat)
              case atStart => exact ⟨0, Nat.zero_le _, rfl, .inl ⟨rfl, by simp [noneS]⟩, Ext.refl _⟩
              case round =>
                obtain ⟨m, hm, rfl, hfd, hx5⟩ := hrel
                have hm10 : m ≤ 10 := by omega
                have HX5 := Lib.hid hx5
                have HX6 := Lib.hid (HX2.out.trans hx5)
                have hb5 := HB2.out.ext hx5
                have hs5 := ext_blk hx5 HS2.out
                have z0 := hb5.c0
                have z1 := hb5.c1
                have y0 := hb5.z 0
                have y1 := hb5.z 1
                have s0 := blk_cell hs5 0
                have HB5 := Lib.hid hb5
                have hlt5 : w.heap.size < wr.heap.size := Nat.lt_of_lt_of_le hlt2 hx5.size
                clear hb5 hs5 hx5
                rcases hfd with ⟨rfl, hno⟩ | ⟨rfl, hyes⟩
                · have HNO := Lib.hid hno
                  clear hno
                  by_cases hmk : m < k
                  · have hml : m < L.length := by rw [← HQ.out]; omega
                    obtain ⟨t, ht⟩ : ∃ t, L[m]? = some t := ⟨_, List.getElem?_eq_getElem hml⟩
                    obtain ⟨_, _, hbo, hst⟩ := H1.out m t ht
                    cases hbo
                    have hst := (hst.ext HX.out).ext (HXW.out.trans HX5.out)
                    obtain ⟨nt, t1, t2, _⟩ := hst.name
                    have HT := Lib.hid ht
                    have HEQ := Lib.hid (name_eq t2 HN2.out)
                    clear ht hst t2 hml
                    cases hq : (t.name == s.name) with
                    | true =>
                      have HY := Lib.hid (List.any_eq_true.2 ⟨t, List.mem_of_getElem? (by rw [List.getElem?_take, if_pos hmk]; exact HT.out), hq⟩ : ((L.take k).any fun t => t.name == s.name) = true)
                      have heq := HEQ.out.trans hq
                      clear hq
                      go_wp2
                      go_quiet (fail)
                      go_wp2
                      exact ⟨⟨m + 1, by omega, by go_num, .inr ⟨rfl, HY.out⟩, HX5.out.drewN _⟩, by simp [intOf]; omega⟩
                    | false =>
                      have HY := Lib.hid (anyS_next (p := fun t => t.name == s.name) HNO.out HT.out hq)
                      have heq := HEQ.out.trans hq
                      clear hq
                      go_wp2
                      go_quiet (fail)
                      go_wp2
                      exact ⟨⟨m + 1, by omega, by go_num, .inl ⟨rfl, HY.out⟩, HX5.out.drewN _⟩, by simp [intOf]; omega⟩
                  · have hmk : m = k := by omega
                    subst hmk
                    have HE := Lib.hid (okTo_next HR.out HS.out (by rw [HSC.out, if_neg (by rw [show _ = false from HNO.out]; simp)]))
                    go_wp2
                    exact ⟨⟨m + 1, by omega, by go_num, HE.out, HX6.out, HB5.out⟩, by simp [intOf]; omega⟩
                · have HE := Lib.hid (okTo_bad HR.out (by rw [← HQ.out]; exact h10') HS.out (by rw [HSC.out, if_pos hyes]; simp))
                  rw [HSC.out, if_pos hyes] at HE
                  clear hyes
                  go_wp2_with (go_at_call 20; refine (At_c _ _ _).mono ?_; rintro e w3 ⟨rfl, rfl⟩)
                  all_goals refine bodyPost_ret (v := .agg #[.int .i64 8, .int .i64 (k : Int)]) (fault_res Try.results17 _ _ w.heap.size (_, _) rfl ?_) rfl ⟨by rw [← HF.out, HE.out], ?_⟩
                  all_goals first | exact (HB5.out.set _ _).alloc _ | exact (HX6.out.set2 _ _).alloc _
          · have HE := Lib.hid (okTo_bad HR.out (by rw [← HQ.out]; exact h10') HS.out (by rw [siteC_zone HG1.out (by rw [HRE.out]; exact g2), HRE.out]; exact g2))
            rw [siteC_zone HG1.out (by rw [HRE.out]; exact g2), HRE.out] at HE
            go_wp2_with (first | (go_at_call 53; refine (HNA.out _).mono ?_; rintro e w2 ⟨rfl, rfl⟩) | (go_at_call 19; refine HRI.out.mono ?_; rintro e w2 ⟨rfl, hx2⟩; have HX2 := Lib.hid (HXS.out.trans hx2); have hb2 := HBS.out.ext hx2; have hs2 := ext_blk hx2 HSB.out; have z0 := hb2.c0; have z1 := hb2.c1; have y0 := hb2.z 0; have y1 := hb2.z 1; have s0 := blk_cell hs2 0; have s1 := blk_cell hs2 1; have s2 := blk_cell hs2 2; have s3 := blk_cell hs2 3; have HB2 := Lib.hid hb2; have HS2 := Lib.hid hs2; have hlt2 : w.heap.size < w2.heap.size := Nat.lt_of_lt_of_le hsz1 (HXA.out.trans hx2).size; have hlt3 : wr.heap.size < w2.heap.size := new_lt hx2; have HXW := Lib.hid (HXA.out.trans hx2); clear hb2 hs2 hx2) | (go_at_call 29; refine (In_c _ _ _ _).mono ?_; rintro e w5 ⟨rfl, rfl⟩))
            go_loopw [5, 6] (fun v j wx => v = .int .i64 r ∧ j = .int .i64 0 ∧ wx = w2) (fun _ _ _ => 0)
            case atStart => exact ⟨rfl, rfl, rfl⟩
            case round =>
              obtain ⟨rfl, rfl, rfl⟩ := hrel
              go_wp2_with (go_at_call 20; refine (At_c _ _ _).mono ?_; rintro e w3 ⟨rfl, rfl⟩)
              all_goals refine bodyPost_ret (v := .agg #[.int .i64 r, .int .i64 (k : Int)]) (fault_res Try.results17 _ _ w.heap.size (_, _) rfl ?_) rfl ⟨by rw [← HF.out, HE.out], ?_⟩
              all_goals first | exact (HB2.out.set _ _).alloc _ | exact (HX2.out.set2 _ _).alloc _
      · have HE := Lib.hid (okTo_all HR.out (by rw [← HQ.out]; exact h10') (by rw [← HQ.out]; omega))
        go_wp2
        refine bodyPost_ret (v := .agg #[.int .i64 0, .int .i64 0]) (fault_res Try.results17 _ _ w.heap.size (_, _) rfl ?_) rfl ⟨by rw [← HF.out, HE.out], ?_⟩
        · exact HB.out.set _ _
        · exact HX.out.set2 _ _
end Go.Proofs.Ytbhcaniopdgjkaa
namespace Go.Proofs.Ytbhcaniopdgjkaa
open Go Go.Proofs Go.RowKit
open Plain (SiteD)
set_option maxHeartbeats 1600000
set_option maxRecDepth 100000
theorem siteC_pos (b : List SiteD) (r : List SiteD) : (Plain.sitesGo b r).1 = 0 → Plain.sitesGo b r = (0, 0) := by
  induction r generalizing b with
  | nil => intro _; rfl
  | cons s r ih =>
    intro h
    rw [Plain.sitesGo] at h ⊢
    split at h
    · rename_i hc; exact absurd h hc
    · rename_i hc; rw [if_neg hc]; exact ih _ h
theorem sitesF_code (L : List SiteD) (h : (Plain.sitesF L).1 = 0) : Plain.sitesF L = (0, 0) := by
  unfold Plain.sitesF at *
  split at h
  · cases h
  · rename_i hc; rw [if_neg hc]; exact siteC_pos _ _ h
theorem check_c (A C : Option Addr) (L : List SiteD) (ch : List Int) (c1 c2 : Nat) (w : World) (hc : ch.length ≤ maxLen)
   (hV : ∀ w1, Ext w w1 → Calls Try.prog 22 #[.slice A L.length c1] w1 (FRet w1 (Plain.sitesF L))) (h2 : Sl w .i64 C ch) :
    Calls Try.prog 45 #[.slice A L.length c1, .slice C ch.length c2] w (FRet w (Plain.chosenF L ch)) := by
  have HV := Lib.hid (hV (w.alloc (.cells #[.int .i64 0, .int .i64 0] 25)) ((Ext.refl w).alloc _))
  obtain ⟨⟨f1, f2⟩, hf⟩ : ∃ f, Plain.sitesF L = f := ⟨_, rfl⟩
  rw [hf] at HV
  obtain ⟨F, hF⟩ : ∃ F, Plain.chosenF L ch = F := ⟨_, rfl⟩
  rw [hF]
  have HFF := Lib.hid hF
  have HF := Lib.hid hf
  clear hV hf hF
  by_cases h1 : f1 = 0
  · have h2' : f2 = 0 := by
      have := sitesF_code L (by rw [HF.out]; exact h1)
      rw [HF.out] at this
      injection this
    subst h1
    subst h2'
    have HR := Lib.hid (fun w1 (x : Ext w w1) => Rising_c C ch c2 L.length w1 hc (h2.ext x))
    obtain ⟨r, hr⟩ : ∃ r, Plain.risingC ch L.length = r := ⟨_, rfl⟩
    rw [hr] at HR
    have HRE := Lib.hid hr
    clear hr h2
    by_cases h3 : r = 0
    · subst h3
      have HV0 : Hid (F = (0, 0)) := by
        show F = (0, 0)
        rw [← HFF.out]; unfold Plain.chosenF; rw [if_pos HF.out, if_neg (by rw [HRE.out]; simp)]
      go_enter Try.func45, Try.ntmps45
      go_wp2_with (first | (go_at_call 22; refine HV.out.mono ?_; rintro e w1 ⟨rfl, hx⟩; have hb := (FBlk.new w 0 0).ext hx; have z0 := hb.c0; have z1 := hb.c1; have y0 := hb.z 0; have y1 := hb.z 1; have hlt := new_lt hx; have HX := Lib.hid (ext_new hx); have HB := Lib.hid hb; clear hb hx) | (go_at_call 46; refine (HR.out _ (HX.out.alloc _)).mono ?_; rintro e w2 ⟨rfl, rfl⟩))
      refine bodyPost_ret (v := .agg #[.int .i64 0, .int .i64 0]) (fault_res Try.results45 _ _ w.heap.size (_, _) rfl ?_) rfl ⟨by rw [HV0.out], ?_⟩
      · exact (HB.out.set _ _).alloc _
      · exact (HX.out.set2 _ _).alloc _
    · have HV0 : Hid (F = (r, -2)) := by
        show F = (r, -2)
        rw [← HFF.out]; unfold Plain.chosenF; rw [if_pos HF.out, if_pos (by rw [HRE.out]; exact h3), HRE.out]
      go_enter Try.func45, Try.ntmps45
      go_wp2_with (first | (go_at_call 22; refine HV.out.mono ?_; rintro e w1 ⟨rfl, hx⟩; have hb := (FBlk.new w 0 0).ext hx; have z0 := hb.c0; have z1 := hb.c1; have y0 := hb.z 0; have y1 := hb.z 1; have hlt := new_lt hx; have HX := Lib.hid (ext_new hx); have HB := Lib.hid hb; clear hb hx) | (go_at_call 46; refine (HR.out _ (HX.out.alloc _)).mono ?_; rintro e w2 ⟨rfl, rfl⟩) | (go_at_call 47; refine (fault_c _ _ _).mono ?_; rintro e w3 ⟨rfl, rfl⟩))
      refine bodyPost_ret (v := .agg #[.int .i64 r, .int .i64 (-2)]) (fault_res Try.results45 _ _ w.heap.size (_, _) rfl ?_) rfl ⟨by rw [HV0.out], ?_⟩
      · exact ((HB.out.set _ _).alloc _).alloc _
      · exact ((HX.out.set2 _ _).alloc _).alloc _
  · have HV0 : Hid (F = (f1, f2)) := by
      show F = (f1, f2)
      rw [← HFF.out]; unfold Plain.chosenF; rw [if_neg (by rw [HF.out]; intro h; apply h1; injection h with a b), HF.out]
    go_enter Try.func45, Try.ntmps45
    go_wp2_with (go_at_call 22; refine HV.out.mono ?_; rintro e w1 ⟨rfl, hx⟩; have hb := (FBlk.new w 0 0).ext hx; have z0 := hb.c0; have z1 := hb.c1; have y0 := hb.z 0; have y1 := hb.z 1; have hlt := new_lt hx; have HX := Lib.hid (ext_new hx); have HB := Lib.hid hb; clear hb hx)
    refine bodyPost_ret (v := .agg #[.int .i64 f1, .int .i64 f2]) (fault_res Try.results45 _ _ w.heap.size (_, _) rfl ?_) rfl ⟨by rw [HV0.out], ?_⟩
    · exact (HB.out.set _ _).alloc _
    · exact (HX.out.set2 _ _).alloc _
end Go.Proofs.Ytbhcaniopdgjkaa
