import Derived.Test.YtbhcaniopdgjkaaMg11
namespace Go.Proofs.Ytbhcaniopdgjkaa
open Go Go.Proofs Go.RowKit
open Plain (SiteD)
set_option maxHeartbeats 3200000
set_option maxRecDepth 100000
/-- The first k sites are good. -/
def okTo (L : List SiteD) (k : Nat) : Prop := Plain.sitesGo [] L = Plain.sitesGo (L.take k) (L.drop k)
theorem okTo_zero (L : List SiteD) : okTo L 0 := by simp [okTo]
theorem drop_cons {α : Type} {L : List α} {k : Nat} {s : α} (h : L[k]? = some s) : L.drop k = s :: L.drop (k + 1) := by
  obtain ⟨h1, rfl⟩ := List.getElem?_eq_some_iff.1 h
  rw [List.drop_eq_getElem_cons h1]
theorem take_snocS {α : Type} {L : List α} {k : Nat} {s : α} (h : L[k]? = some s) : L.take (k + 1) = L.take k ++ [s] := by
  obtain ⟨h1, rfl⟩ := List.getElem?_eq_some_iff.1 h
  rw [List.take_succ_eq_append_getElem h1]
theorem okTo_next {L : List SiteD} {k : Nat} {s : SiteD} (h : okTo L k) (hs : L[k]? = some s) (hc : Plain.siteC (L.take k) s = 0) : okTo L (k + 1) := by
  unfold okTo at *
  rw [h, drop_cons hs, take_snocS hs, Plain.sitesGo, if_neg (by rw [hc]; simp)]
theorem okTo_bad {L : List SiteD} {k : Nat} {s : SiteD} (h : okTo L k) (hl : L.length ≤ 10) (hs : L[k]? = some s) (hc : Plain.siteC (L.take k) s ≠ 0) : Plain.sitesF L = (Plain.siteC (L.take k) s, (k : Int)) := by
  unfold okTo at h
  have hk : k < L.length := (List.getElem?_eq_some_iff.1 hs).1
  rw [Plain.sitesF, if_neg (by omega), h, drop_cons hs, Plain.sitesGo, if_pos hc, List.length_take, Nat.min_eq_left (by omega)]
theorem okTo_all {L : List SiteD} {k : Nat} (h : okTo L k) (hl : L.length ≤ 10) (hk : L.length ≤ k) : Plain.sitesF L = (0, 0) := by
  unfold okTo at h
  rw [Plain.sitesF, if_neg (by omega), h, List.drop_of_length_le hk, Plain.sitesGo]
theorem siteC_name {b : List SiteD} {s : SiteD} (h : Plain.nameB s.name = false) : Plain.siteC b s = 7 := by rw [Plain.siteC, if_pos h]
theorem siteC_zone {b : List SiteD} {s : SiteD} (h : Plain.nameB s.name = true) (h2 : Plain.risingC s.zones 12 ≠ 0) : Plain.siteC b s = Plain.risingC s.zones 12 := by rw [Plain.siteC, if_neg (by simp [h]), if_pos h2]
theorem siteC_num {b : List SiteD} {s : SiteD} (h : Plain.nameB s.name = true) (h2 : Plain.risingC s.zones 12 = 0) (h3 : s.cost < 0 ∨ 1000000 < s.cost ∨ s.wear < 0 ∨ 90 < s.wear) : Plain.siteC b s = 4 := by rw [Plain.siteC, if_neg (by simp [h]), if_neg (by simp [h2]), if_pos h3]
theorem siteC_rest {b : List SiteD} {s : SiteD} (h : Plain.nameB s.name = true) (h2 : Plain.risingC s.zones 12 = 0) (h3 : ¬ (s.cost < 0 ∨ 1000000 < s.cost ∨ s.wear < 0 ∨ 90 < s.wear)) : Plain.siteC b s = if (b.any fun t => t.name == s.name) = true then 8 else 0 := by rw [Plain.siteC, if_neg (by simp [h]), if_neg (by simp [h2]), if_neg h3]
theorem Sites.take {w : World} {A : Option Addr} {L : List SiteD} (h : Sites w A L) (k : Nat) : Sites w A (L.take k) := fun i s hs => by
  rw [List.getElem?_take] at hs
  split at hs
  · exact h i s hs
  · cases hs
/-- A copy of a site in a block of its own. -/
theorem site_blk (w : World) (nm : ByteArray) (Z : Option Addr) (n c : Nat) (x y : Int) : (w.alloc (.cells #[.string nm, .slice Z n c, .int .i64 x, .int .i64 y] 52)).heap[w.heap.size]? = some (.cells #[.string nm, .slice Z n c, .int .i64 x, .int .i64 y] 52 (0, 0)) := new_blk _ _
theorem Validate_c (A : Option Addr) (L : List SiteD) (c1 : Nat) (w : World) (hL : L.length ≤ c1) (h1 : Sites w A L) (hg : Glob w) :
    Calls Try.prog 22 #[.slice A L.length c1] w (FRet w (Plain.sitesF L)) := by
  obtain ⟨F, hF⟩ : ∃ F, Plain.sitesF L = F := ⟨_, rfl⟩
  rw [hF]
  have HF := Lib.hid hF
  clear hF
  obtain ⟨q, hq⟩ : ∃ q, q = L.length := ⟨_, rfl⟩
  rw [← hq] at hL ⊢
  have HQ := Lib.hid hq
  have H1 := Lib.hid h1
  have HG := Lib.hid hg
  clear hq h1 hg
  by_cases h10 : 10 < q
  · have HV : Hid (F = (2, -1)) := by
      show F = (2, -1)
      rw [← HF.out, Plain.sitesF, if_pos (by rw [← HQ.out]; exact h10)]
    go_enter Try.func22, Try.ntmps22
    go_wp2_with (go_at_call 47; refine (fault_c _ _ _).mono ?_; rintro e w3 ⟨rfl, rfl⟩)
    refine bodyPost_ret (v := .agg #[.int .i64 2, .int .i64 (-1)]) (fault_res Try.results22 _ _ w.heap.size (2, -1) rfl ?_) rfl ⟨by rw [HV.out], ?_⟩
    · exact (FBlk.new w 2 (-1)).alloc _
    · exact ((Ext.refl w).alloc _).alloc _
  · have h10' : q ≤ 10 := by omega
    go_enter Try.func22, Try.ntmps22
    go_wp2
    go_loopw [12] (fun i wr => ∃ k : Nat, k ≤ q ∧ i = .int .i64 k ∧ okTo L k ∧ Ext w wr ∧ FBlk wr w.heap.size (0, 0)) (fun i _ => q - (intOf i).toNat)
    case atStart => exact ⟨0, Nat.zero_le _, rfl, okTo_zero _, (Ext.refl w).alloc _, FBlk.new w 0 0⟩
    case round =>
      obtain ⟨k, hk, rfl, hr, hx, hb⟩ := hrel
      have HR := Lib.hid hr
      have HX := Lib.hid hx
      have HB := Lib.hid hb
      have hsz := hx.size
      have z0 := hb.c0
      have z1 := hb.c1
      have y0 := hb.z 0
      have y1 := hb.z 1
      have hsz1 : w.heap.size < wr.heap.size := (Array.getElem?_eq_some_iff.1 hb).1
      clear hr hx hb
      by_cases hlt : k < q
      · have hkl : k < L.length := by rw [← HQ.out]; exact hlt
        obtain ⟨s, hs⟩ : ∃ s, L[k]? = some s := ⟨_, List.getElem?_eq_getElem hkl⟩
        obtain ⟨b, o, rfl, hsite⟩ := H1.out k s hs
        have HS := Lib.hid hs
        have HSI := Lib.hid (hsite.ext HX.out)
        obtain ⟨nm, n1, n2, n3⟩ := HSI.out.name
        obtain ⟨Z, zc, k1, _, k2, _, k3⟩ := HSI.out.zones
        have k4 := HSI.out.cost
        have k5 := HSI.out.wear
        have HN2 := Lib.hid n2
        have HXA := Lib.hid ((Ext.refl wr).alloc (.cells #[.string nm, .slice Z s.zones.length zc, .int .i64 s.cost, .int .i64 s.wear] 52))
        have HXS := Lib.hid (HX.out.trans HXA.out)
        have HBS := Lib.hid (HB.out.ext HXA.out)
        have HSB := Lib.hid (site_blk wr nm Z s.zones.length zc s.cost s.wear)
        have HNA := Lib.hid (isName_c nm _ n3 (HG.out.ext HXS.out))
        have HRI := Lib.hid (fun w1 (x : Ext wr w1) => Rising_c Z s.zones zc 12 w1 (by unfold maxLen at k2 ⊢; omega) (k3.ext x))
        rw [n2] at HNA
        clear hs hsite hkl n2 n3 k2 k3
        cases g1 : Plain.nameB s.name with
        | false =>
          have HE := Lib.hid (okTo_bad HR.out (by rw [← HQ.out]; exact h10') HS.out (by rw [siteC_name g1]; simp))
          rw [siteC_name g1] at HE
          rw [g1] at HNA; clear g1
          go_wp2_with (first | (go_at_call 55; refine HNA.out.mono ?_; rintro e w2 ⟨rfl, hx2⟩; have HX2 := Lib.hid (HXS.out.trans hx2); have hb2 := HBS.out.ext hx2; have hs2 := ext_blk hx2 HSB.out; have z0 := hb2.c0; have z1 := hb2.c1; have y0 := hb2.z 0; have y1 := hb2.z 1; have s0 := blk_cell hs2 0; have s1 := blk_cell hs2 1; have s2 := blk_cell hs2 2; have s3 := blk_cell hs2 3; have HB2 := Lib.hid hb2; have HS2 := Lib.hid hs2; have hlt2 : w.heap.size < w2.heap.size := Nat.lt_of_lt_of_le hsz1 (HXA.out.trans hx2).size; have hlt3 : wr.heap.size < w2.heap.size := new_lt hx2; have HXW := Lib.hid (HXA.out.trans hx2); clear hb2 hs2 hx2) | (go_at_call 47; refine (fault_c _ _ _).mono ?_; rintro e w3 ⟨rfl, rfl⟩))
          refine bodyPost_ret (v := .agg #[.int .i64 7, .int .i64 (k : Int)]) (fault_res Try.results22 _ _ w.heap.size (_, _) rfl ?_) rfl ⟨by rw [← HF.out, HE.out], ?_⟩
          · exact (HB2.out.set _ _).alloc _
          · exact (HX2.out.set2 _ _).alloc _
        | true =>
          rw [g1] at HNA
          have HG1 := Lib.hid g1
          clear g1
          obtain ⟨r, hr⟩ : ∃ r, Plain.risingC s.zones 12 = r := ⟨_, rfl⟩
          rw [hr] at HRI
          have HRE := Lib.hid hr
          clear hr
          by_cases g2 : r = 0
          · subst g2
            by_cases g3 : s.cost < 0 ∨ 1000000 < s.cost ∨ s.wear < 0 ∨ 90 < s.wear
            · have HE := Lib.hid (okTo_bad HR.out (by rw [← HQ.out]; exact h10') HS.out (by rw [siteC_num HG1.out HRE.out g3]; simp))
              rw [siteC_num HG1.out HRE.out g3] at HE
              have HG3 := Lib.hid g3
              clear g3
              by_cases e1 : s.cost < 0
              ·
                go_wp2_with (first | (go_at_call 55; refine HNA.out.mono ?_; rintro e w2 ⟨rfl, hx2⟩; have HX2 := Lib.hid (HXS.out.trans hx2); have hb2 := HBS.out.ext hx2; have hs2 := ext_blk hx2 HSB.out; have z0 := hb2.c0; have z1 := hb2.c1; have y0 := hb2.z 0; have y1 := hb2.z 1; have s0 := blk_cell hs2 0; have s1 := blk_cell hs2 1; have s2 := blk_cell hs2 2; have s3 := blk_cell hs2 3; have HB2 := Lib.hid hb2; have HS2 := Lib.hid hs2; have hlt2 : w.heap.size < w2.heap.size := Nat.lt_of_lt_of_le hsz1 (HXA.out.trans hx2).size; have hlt3 : wr.heap.size < w2.heap.size := new_lt hx2; have HXW := Lib.hid (HXA.out.trans hx2); clear hb2 hs2 hx2) | (go_at_call 46; refine (HRI.out _ HXW.out).mono ?_; rintro e w3 ⟨rfl, rfl⟩) | (go_at_call 47; refine (fault_c _ _ _).mono ?_; rintro e w3 ⟨rfl, rfl⟩))
                refine bodyPost_ret (v := .agg #[.int .i64 4, .int .i64 (k : Int)]) (fault_res Try.results22 _ _ w.heap.size (_, _) rfl ?_) rfl ⟨by rw [← HF.out, HE.out], ?_⟩
                · exact (HB2.out.set _ _).alloc _
                · exact (HX2.out.set2 _ _).alloc _
              by_cases e2 : 1000000 < s.cost
              ·
                go_wp2_with (first | (go_at_call 55; refine HNA.out.mono ?_; rintro e w2 ⟨rfl, hx2⟩; have HX2 := Lib.hid (HXS.out.trans hx2); have hb2 := HBS.out.ext hx2; have hs2 := ext_blk hx2 HSB.out; have z0 := hb2.c0; have z1 := hb2.c1; have y0 := hb2.z 0; have y1 := hb2.z 1; have s0 := blk_cell hs2 0; have s1 := blk_cell hs2 1; have s2 := blk_cell hs2 2; have s3 := blk_cell hs2 3; have HB2 := Lib.hid hb2; have HS2 := Lib.hid hs2; have hlt2 : w.heap.size < w2.heap.size := Nat.lt_of_lt_of_le hsz1 (HXA.out.trans hx2).size; have hlt3 : wr.heap.size < w2.heap.size := new_lt hx2; have HXW := Lib.hid (HXA.out.trans hx2); clear hb2 hs2 hx2) | (go_at_call 46; refine (HRI.out _ HXW.out).mono ?_; rintro e w3 ⟨rfl, rfl⟩) | (go_at_call 47; refine (fault_c _ _ _).mono ?_; rintro e w3 ⟨rfl, rfl⟩))
                refine bodyPost_ret (v := .agg #[.int .i64 4, .int .i64 (k : Int)]) (fault_res Try.results22 _ _ w.heap.size (_, _) rfl ?_) rfl ⟨by rw [← HF.out, HE.out], ?_⟩
                · exact (HB2.out.set _ _).alloc _
                · exact (HX2.out.set2 _ _).alloc _
              by_cases e3 : s.wear < 0
              ·
                go_wp2_with (first | (go_at_call 55; refine HNA.out.mono ?_; rintro e w2 ⟨rfl, hx2⟩; have HX2 := Lib.hid (HXS.out.trans hx2); have hb2 := HBS.out.ext hx2; have hs2 := ext_blk hx2 HSB.out; have z0 := hb2.c0; have z1 := hb2.c1; have y0 := hb2.z 0; have y1 := hb2.z 1; have s0 := blk_cell hs2 0; have s1 := blk_cell hs2 1; have s2 := blk_cell hs2 2; have s3 := blk_cell hs2 3; have HB2 := Lib.hid hb2; have HS2 := Lib.hid hs2; have hlt2 : w.heap.size < w2.heap.size := Nat.lt_of_lt_of_le hsz1 (HXA.out.trans hx2).size; have hlt3 : wr.heap.size < w2.heap.size := new_lt hx2; have HXW := Lib.hid (HXA.out.trans hx2); clear hb2 hs2 hx2) | (go_at_call 46; refine (HRI.out _ HXW.out).mono ?_; rintro e w3 ⟨rfl, rfl⟩) | (go_at_call 47; refine (fault_c _ _ _).mono ?_; rintro e w3 ⟨rfl, rfl⟩))
                refine bodyPost_ret (v := .agg #[.int .i64 4, .int .i64 (k : Int)]) (fault_res Try.results22 _ _ w.heap.size (_, _) rfl ?_) rfl ⟨by rw [← HF.out, HE.out], ?_⟩
                · exact (HB2.out.set _ _).alloc _
                · exact (HX2.out.set2 _ _).alloc _
              have e4 : 90 < s.wear := by have := HG3.out; omega
              go_wp2_with (first | (go_at_call 55; refine HNA.out.mono ?_; rintro e w2 ⟨rfl, hx2⟩; have HX2 := Lib.hid (HXS.out.trans hx2); have hb2 := HBS.out.ext hx2; have hs2 := ext_blk hx2 HSB.out; have z0 := hb2.c0; have z1 := hb2.c1; have y0 := hb2.z 0; have y1 := hb2.z 1; have s0 := blk_cell hs2 0; have s1 := blk_cell hs2 1; have s2 := blk_cell hs2 2; have s3 := blk_cell hs2 3; have HB2 := Lib.hid hb2; have HS2 := Lib.hid hs2; have hlt2 : w.heap.size < w2.heap.size := Nat.lt_of_lt_of_le hsz1 (HXA.out.trans hx2).size; have hlt3 : wr.heap.size < w2.heap.size := new_lt hx2; have HXW := Lib.hid (HXA.out.trans hx2); clear hb2 hs2 hx2) | (go_at_call 46; refine (HRI.out _ HXW.out).mono ?_; rintro e w3 ⟨rfl, rfl⟩) | (go_at_call 47; refine (fault_c _ _ _).mono ?_; rintro e w3 ⟨rfl, rfl⟩))
              refine bodyPost_ret (v := .agg #[.int .i64 4, .int .i64 (k : Int)]) (fault_res Try.results22 _ _ w.heap.size (_, _) rfl ?_) rfl ⟨by rw [← HF.out, HE.out], ?_⟩
              · exact (HB2.out.set _ _).alloc _
              · exact (HX2.out.set2 _ _).alloc _
            · have HSC := Lib.hid (siteC_rest (b := L.take k) HG1.out HRE.out g3)
              have HCF := Lib.hid (fun w1 (x : Ext wr w1) hcell => ContainsFuncS_c (some ⟨b, o, none⟩) (L.take k) c1 wr.heap.size nm w1 (by rw [List.length_take]; omega) (((H1.out.take k).ext HX.out).ext x) hcell)
              rw [List.length_take, ← HQ.out, Nat.min_eq_left hk, HN2.out] at HCF
              obtain ⟨g3a, g3b⟩ := not_or.1 g3
              obtain ⟨g3b, g3c⟩ := not_or.1 g3b
              obtain ⟨g3c, g3d⟩ := not_or.1 g3c
              clear g3
              cases g4 : ((L.take k).any fun t => t.name == s.name) with
              | true =>
                rw [g4] at HCF
                have HE := Lib.hid (okTo_bad HR.out (by rw [← HQ.out]; exact h10') HS.out (by rw [HSC.out, if_pos g4]; simp))
                rw [HSC.out, if_pos g4] at HE
                clear g4
                go_wp2_with (first | (go_at_call 55; refine HNA.out.mono ?_; rintro e w2 ⟨rfl, hx2⟩; have HX2 := Lib.hid (HXS.out.trans hx2); have hb2 := HBS.out.ext hx2; have hs2 := ext_blk hx2 HSB.out; have z0 := hb2.c0; have z1 := hb2.c1; have y0 := hb2.z 0; have y1 := hb2.z 1; have s0 := blk_cell hs2 0; have s1 := blk_cell hs2 1; have s2 := blk_cell hs2 2; have s3 := blk_cell hs2 3; have HB2 := Lib.hid hb2; have HS2 := Lib.hid hs2; have hlt2 : w.heap.size < w2.heap.size := Nat.lt_of_lt_of_le hsz1 (HXA.out.trans hx2).size; have hlt3 : wr.heap.size < w2.heap.size := new_lt hx2; have HXW := Lib.hid (HXA.out.trans hx2); clear hb2 hs2 hx2) | (go_at_call 46; refine (HRI.out _ HXW.out).mono ?_; rintro e w3 ⟨rfl, rfl⟩) | (go_at_call 56; refine (HCF.out _ HXW.out s0).mono ?_; rintro e w4 ⟨rfl, hx4⟩; have HX4 := Lib.hid (HX2.out.trans hx4); have hb4 := HB2.out.ext hx4; have p0 := hb4.c0; have p1 := hb4.c1; have q0 := hb4.z 0; have q1 := hb4.z 1; have HB4 := Lib.hid hb4; have hlt4 : w.heap.size < w4.heap.size := Nat.lt_of_lt_of_le hlt2 hx4.size; clear hb4 hx4) | (go_at_call 47; refine (fault_c _ _ _).mono ?_; rintro e w3 ⟨rfl, rfl⟩))
                refine bodyPost_ret (v := .agg #[.int .i64 8, .int .i64 (k : Int)]) (fault_res Try.results22 _ _ w.heap.size (_, _) rfl ?_) rfl ⟨by rw [← HF.out, HE.out], ?_⟩
                · exact (HB4.out.set _ _).alloc _
                · exact (HX4.out.set2 _ _).alloc _
              | false =>
                rw [g4] at HCF
                have HE := Lib.hid (okTo_next HR.out HS.out (by rw [HSC.out, if_neg (by rw [g4]; simp)]))
                clear g4
                go_wp2_with (first | (go_at_call 55; refine HNA.out.mono ?_; rintro e w2 ⟨rfl, hx2⟩; have HX2 := Lib.hid (HXS.out.trans hx2); have hb2 := HBS.out.ext hx2; have hs2 := ext_blk hx2 HSB.out; have z0 := hb2.c0; have z1 := hb2.c1; have y0 := hb2.z 0; have y1 := hb2.z 1; have s0 := blk_cell hs2 0; have s1 := blk_cell hs2 1; have s2 := blk_cell hs2 2; have s3 := blk_cell hs2 3; have HB2 := Lib.hid hb2; have HS2 := Lib.hid hs2; have hlt2 : w.heap.size < w2.heap.size := Nat.lt_of_lt_of_le hsz1 (HXA.out.trans hx2).size; have hlt3 : wr.heap.size < w2.heap.size := new_lt hx2; have HXW := Lib.hid (HXA.out.trans hx2); clear hb2 hs2 hx2) | (go_at_call 46; refine (HRI.out _ HXW.out).mono ?_; rintro e w3 ⟨rfl, rfl⟩) | (go_at_call 56; refine (HCF.out _ HXW.out s0).mono ?_; rintro e w4 ⟨rfl, hx4⟩; have HX4 := Lib.hid (HX2.out.trans hx4); have hb4 := HB2.out.ext hx4; have p0 := hb4.c0; have p1 := hb4.c1; have q0 := hb4.z 0; have q1 := hb4.z 1; have HB4 := Lib.hid hb4; have hlt4 : w.heap.size < w4.heap.size := Nat.lt_of_lt_of_le hlt2 hx4.size; clear hb4 hx4) | (go_at_call 47; refine (fault_c _ _ _).mono ?_; rintro e w3 ⟨rfl, rfl⟩))
                exact ⟨⟨k + 1, by omega, by go_num, HE.out, HX4.out, HB4.out⟩, by simp [intOf]; omega⟩
          · have HE := Lib.hid (okTo_bad HR.out (by rw [← HQ.out]; exact h10') HS.out (by rw [siteC_zone HG1.out (by rw [HRE.out]; exact g2), HRE.out]; exact g2))
            rw [siteC_zone HG1.out (by rw [HRE.out]; exact g2), HRE.out] at HE
            go_wp2_with (first | (go_at_call 55; refine HNA.out.mono ?_; rintro e w2 ⟨rfl, hx2⟩; have HX2 := Lib.hid (HXS.out.trans hx2); have hb2 := HBS.out.ext hx2; have hs2 := ext_blk hx2 HSB.out; have z0 := hb2.c0; have z1 := hb2.c1; have y0 := hb2.z 0; have y1 := hb2.z 1; have s0 := blk_cell hs2 0; have s1 := blk_cell hs2 1; have s2 := blk_cell hs2 2; have s3 := blk_cell hs2 3; have HB2 := Lib.hid hb2; have HS2 := Lib.hid hs2; have hlt2 : w.heap.size < w2.heap.size := Nat.lt_of_lt_of_le hsz1 (HXA.out.trans hx2).size; have hlt3 : wr.heap.size < w2.heap.size := new_lt hx2; have HXW := Lib.hid (HXA.out.trans hx2); clear hb2 hs2 hx2) | (go_at_call 46; refine (HRI.out _ HXW.out).mono ?_; rintro e w3 ⟨rfl, rfl⟩) | (go_at_call 47; refine (fault_c _ _ _).mono ?_; rintro e w3 ⟨rfl, rfl⟩))
            refine bodyPost_ret (v := .agg #[.int .i64 r, .int .i64 (k : Int)]) (fault_res Try.results22 _ _ w.heap.size (_, _) rfl ?_) rfl ⟨by rw [← HF.out, HE.out], ?_⟩
            · exact (HB2.out.set _ _).alloc _
            · exact (HX2.out.set2 _ _).alloc _
      · have HE := Lib.hid (okTo_all HR.out (by rw [← HQ.out]; exact h10') (by rw [← HQ.out]; omega))
        go_wp2
        refine bodyPost_ret (v := .agg #[.int .i64 0, .int .i64 0]) (fault_res Try.results22 _ _ w.heap.size (_, _) rfl ?_) rfl ⟨by rw [← HF.out, HE.out], ?_⟩
        · exact HB.out.set _ _
        · exact HX.out.set2 _ _
end Go.Proofs.Ytbhcaniopdgjkaa
