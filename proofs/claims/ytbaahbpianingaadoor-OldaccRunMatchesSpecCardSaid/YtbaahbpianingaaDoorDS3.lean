import Derived.Test.YtbaahbpianingaaDoorSpQ
namespace Go.Proofs.YtbaahbpianingaaDoor
open Go Go.Proofs Go.RowKit
open Acc (Dk red five)
set_option maxHeartbeats 12800000
set_option maxRecDepth 100000
theorem dstep_12tt (bad : Nat → Prop) (cs : Array Value) (s : Dk) (w : World) (hbad : ∀ g, bad g → g < w.heap.size) (h : StAv bad w cs s) (hok : OkSt s) (hz : Acc.stopF s = 0) (hop : Acc.opF s = 12) (hf0 : five (s.x - 1) = true) (hz0 : (red (s.x - 1) != 0) = false) : Calls Tryd.prog 46 #[.agg cs] w (SpRet bad w (Acc.stepF s)) := by
  obtain ⟨p, W0, a, m, ah⟩ := ahead hok hz
  rw [stepF_go hz, hop, ah.ad, ah.at_]
  rw [hop] at ah
  obtain ⟨r, hr⟩ : ∃ r, Acc.effF { s with at_ := (p : Int) + 1 } 12 (a : Int) = r := ⟨_, rfl⟩
  rw [hr]
  have HR := Lib.hid hr
  have HBAD := Lib.hid hbad
  have HOK := Lib.hid hok
  have HAH := Lib.hid ah
  have HH := Lib.hid h
  have hp100 := ah.p100
  have hw0 := ah.w0
  have hw1 := ah.w1
  have halt := ah.alt
  have fA := Acc.five_iff.1 hok.ok.a
  have fQ := Acc.five_iff.1 hok.ok.q
  have fX := Acc.five_iff.1 hok.ok.x
  have fM := Acc.five_iff.1 ah.m5
  have hin1 : inB W0 0 19999 = true := by unfold inB; simp; omega
  have hin2 : inB (a : Int) 0 99 = true := by unfold inB; simp; omega
  have HOPQ := Lib.hid ah.op
  have HSG := Lib.hid (fun W => Signed_c s.a W hok.ok.a)
  have hsg : (strOfNums (Acc.signed s.a)).size ≤ 6 := by rw [strOfNums_size]; exact signed_len hok.ok.a
  have hwm : Acc.wordAt { s with at_ := (p : Int) + 1 } (a : Int) = m := by show s.words[((a : Nat) : Int).toNat]?.getD 0 = m; rw [Int.toNat_natCast]; exact ah.mv
  have HWM := Lib.hid hwm
  clear hwm
  clear hr hz hop hbad h
  have HF := Lib.hid hf0
  clear hf0
  go_enter Tryd.func46, Tryd.ntmps46
  go_upto_region 0 with (fail)
  go_cut [1, 2] (fun s1 s2 wx => s1 = .pointer (some ⟨w.heap.size, 0, none⟩) ∧ s2 = .pointer (some ⟨w.heap.size + 1, 0, none⟩) ∧ Sp bad w wx s cs)
  case first =>
      go_wp2_with (refine wpList_allocS rfl rfl ?_)
      go_meet
      exact ⟨rfl, by simp, Sp.mk0 HH.out⟩
  obtain ⟨rfl, rfl, ht⟩ := hcut
  obtain ⟨wa, rfl⟩ : ∃ wa : World, wa = wc := ⟨_, rfl⟩
  have HT := Lib.hid ht
  have hlta := ht.lt
  have kAt : wa.cell? ⟨w.heap.size, 100, none⟩ = some (.int .i64 (p : Int)) := (ht.cell 100).trans (by rw [ht.is.at_, ah.at_])
  have kW : wa.cell? ⟨w.heap.size, p, none⟩ = some (.int .i64 W0) := (ht.cell p).trans (by rw [ht.is.words p hp100, ah.wp])
  have kX : wa.cell? ⟨w.heap.size, 103, none⟩ = some (.int .i64 s.x) := (ht.cell 103).trans ht.is.x
  have kM : wa.cell? ⟨w.heap.size, a, none⟩ = some (.int .i64 m) := (ht.cell a).trans (by rw [ht.is.words a halt, ah.mv])
  have kA : wa.cell? ⟨w.heap.size, 101, none⟩ = some (.int .i64 s.a) := (ht.cell 101).trans ht.is.a
  have zAt := ht.frozen 100
  have hpne : ((p : Int) == 100) = false := by simp; omega
  clear ht
  go_upto_region 5 with (fail)
  go_cut [4] (fun s4 wx => s4 = .int .i64 12 ∧ wa = wx)
  case first =>
      go_wp2_with fail
      go_meet
      exact ⟨by rw [HOPQ.out], rfl⟩
  obtain ⟨rfl, rfl⟩ := hcut
  go_upto_region 9 with (go_at_call 22; refine (In_c _ _ _ _).mono ?_; rintro e w' ⟨rfl, rfl⟩; rw [hin1])
  go_upto_if 40 with (fail)
  go_cut [5] (fun s5 wx => s5 = .int .i64 (a : Int) ∧ wa = wx)
  case first =>
      by_cases hi : 10000 ≤ W0
      · have e1 : W0 % 100 + s.x = (a : Int) := HAH.out.adhi hi
        go_wp2_with fail
        go_meet
        exact ⟨by first | rfl | rw [e1], rfl⟩
      · have e1 : W0 % 100 = (a : Int) := HAH.out.adlo (by omega)
        go_wp2_with fail
        go_meet
        exact ⟨by first | rfl | rw [e1], rfl⟩
  obtain ⟨rfl, rfl⟩ := hcut
  generalize hgs : strOfNums (Acc.signed s.a) = SG at *
  have HGS := Lib.hid hgs
  clear hgs
  go_upto_region 26 with (first | (go_at_call 22; refine (In_c _ _ _ _).mono ?_; rintro e w' ⟨rfl, rfl⟩; rw [hin2]) | (go_at_call 72; refine (HSG.out _).mono ?_; rintro e w1 ⟨rfl, hx1⟩; have HT1 := Lib.hid (HT.out.ext hx1); have hlt1 := HT1.out.lt; have kAt1 := (HT1.out.cell 100).trans (HT1.out.is.at_.trans (by rw [HAH.out.at_])); have zAt1 := HT1.out.frozen 100; have kO1 := HT1.out.cell 106; clear hx1 kAt kW kX kM kA zAt))
  refine wp_world (fun wx => Sp bad w wx { s with at_ := (p : Int) + 1 } (cs.setIfInBounds 100 (.int .i64 ((p : Int) + 1)))) (HT1.out.set (fun F h => at_set h (n := (p : Int) + 1) ⟨by omega, by omega⟩)) ?_
  intro w2 hp2
  have hlt2 := hp2.lt
  have k1002 : w2.cell? ⟨w.heap.size, 100, none⟩ = some (.int .i64 ((p : Int) + 1)) := (hp2.cell 100).trans hp2.is.at_
  have z1002 := hp2.frozen 100
  have k1032 : w2.cell? ⟨w.heap.size, 103, none⟩ = some (.int .i64 s.x) := (hp2.cell 103).trans hp2.is.x
  have z1032 := hp2.frozen 103
  have k1042 : w2.cell? ⟨w.heap.size, 104, none⟩ = some (.bool s.ov) := (hp2.cell 104).trans hp2.is.ov
  have z1042 := hp2.frozen 104
  have HP2 := Lib.hid hp2
  clear hp2 kAt1 zAt1 kO1
  have hrd := Acc.five_iff.1 (Acc.red_five (s.x - 1))
  go_upto_region 86 with (first | (go_at_call 73; refine (reduced_c _ _ ⟨by omega, by omega⟩).mono ?_; rintro e w' ⟨rfl, rfl⟩) | (go_at_call 42; refine (five_c _ _).mono ?_; rintro e w' ⟨rfl, rfl⟩; rw [HF.out]))
  refine wp_world (fun wx => Sp bad w wx { { s with at_ := (p : Int) + 1 } with x := red (s.x - 1) } ((cs.setIfInBounds 100 (.int .i64 ((p : Int) + 1))).setIfInBounds 103 (.int .i64 (red (s.x - 1))))) (HP2.out.set (fun F h => x_set h (n := red (s.x - 1)) (five_i64 (Acc.red_five _)))) ?_
  intro wf hm
  have HEQ : Hid ({ { s with at_ := (p : Int) + 1 } with x := red (s.x - 1) } = r) := Lib.hid (by
      rw [← HR.out, eff12_eq, if_pos (by simpa using hz0), HF.out]; simp)
  have HB1 := Lib.hid hm.b1
  have HB2 := Lib.hid hm.b2
  have HSB := Lib.hid hm.is.size
  have HO := Lib.hid (dk_one hm.is)
  have hltf := hm.lt
  have HFIN := Lib.hid hm.fin
  rw [HEQ.out] at HFIN
  clear hm
  obtain ⟨cz, hcz⟩ : ∃ cz, cz = ((cs.setIfInBounds 100 (.int .i64 ((p : Int) + 1))).setIfInBounds 103 (.int .i64 (red (s.x - 1)))) := ⟨_, rfl⟩
  rw [← hcz] at HB1 HSB HO HFIN
  clear hcz
  go_wp2_with (first | refine wpList_load_row rfl 25 _ rfl w.heap.size rfl 25 cz (0, 0) _ HB1.out Tryd.underlying25 rfl (by rw [HSB.out]; exact sizeS) ?_ | refine wpList_store_row rfl 25 _ _ rfl (w.heap.size + 1) cz rfl rfl 25 zeroDk HB2.out (by rw [HSB.out]; exact sizeS) (by rw [HSB.out]; rfl) HO.out ?_)
  refine bodyPost_ret (results_one rfl _ _ (w.heap.size + 1) 25 cz (0, 0) _ rfl ?_ Tryd.underlying25 rfl (by rw [HSB.out]; exact sizeS)) rfl HFIN.out
  exact setRow_heap _ _ _ _ _ _ HB2.out
theorem dstep_12tf (bad : Nat → Prop) (cs : Array Value) (s : Dk) (w : World) (hbad : ∀ g, bad g → g < w.heap.size) (h : StAv bad w cs s) (hok : OkSt s) (hz : Acc.stopF s = 0) (hop : Acc.opF s = 12) (hf0 : five (s.x - 1) = true) (hz0 : (red (s.x - 1) != 0) = true) : Calls Tryd.prog 46 #[.agg cs] w (SpRet bad w (Acc.stepF s)) := by
  obtain ⟨p, W0, a, m, ah⟩ := ahead hok hz
  rw [stepF_go hz, hop, ah.ad, ah.at_]
  rw [hop] at ah
  obtain ⟨r, hr⟩ : ∃ r, Acc.effF { s with at_ := (p : Int) + 1 } 12 (a : Int) = r := ⟨_, rfl⟩
  rw [hr]
  have HR := Lib.hid hr
  have HBAD := Lib.hid hbad
  have HOK := Lib.hid hok
  have HAH := Lib.hid ah
  have HH := Lib.hid h
  have hp100 := ah.p100
  have hw0 := ah.w0
  have hw1 := ah.w1
  have halt := ah.alt
  have fA := Acc.five_iff.1 hok.ok.a
  have fQ := Acc.five_iff.1 hok.ok.q
  have fX := Acc.five_iff.1 hok.ok.x
  have fM := Acc.five_iff.1 ah.m5
  have hin1 : inB W0 0 19999 = true := by unfold inB; simp; omega
  have hin2 : inB (a : Int) 0 99 = true := by unfold inB; simp; omega
  have HOPQ := Lib.hid ah.op
  have HSG := Lib.hid (fun W => Signed_c s.a W hok.ok.a)
  have hsg : (strOfNums (Acc.signed s.a)).size ≤ 6 := by rw [strOfNums_size]; exact signed_len hok.ok.a
  have hwm : Acc.wordAt { s with at_ := (p : Int) + 1 } (a : Int) = m := by show s.words[((a : Nat) : Int).toNat]?.getD 0 = m; rw [Int.toNat_natCast]; exact ah.mv
  have HWM := Lib.hid hwm
  clear hwm
  clear hr hz hop hbad h
  have HF := Lib.hid hf0
  clear hf0
  go_enter Tryd.func46, Tryd.ntmps46
  go_upto_region 0 with (fail)
  go_cut [1, 2] (fun s1 s2 wx => s1 = .pointer (some ⟨w.heap.size, 0, none⟩) ∧ s2 = .pointer (some ⟨w.heap.size + 1, 0, none⟩) ∧ Sp bad w wx s cs)
  case first =>
      go_wp2_with (refine wpList_allocS rfl rfl ?_)
      go_meet
      exact ⟨rfl, by simp, Sp.mk0 HH.out⟩
  obtain ⟨rfl, rfl, ht⟩ := hcut
  obtain ⟨wa, rfl⟩ : ∃ wa : World, wa = wc := ⟨_, rfl⟩
  have HT := Lib.hid ht
  have hlta := ht.lt
  have kAt : wa.cell? ⟨w.heap.size, 100, none⟩ = some (.int .i64 (p : Int)) := (ht.cell 100).trans (by rw [ht.is.at_, ah.at_])
  have kW : wa.cell? ⟨w.heap.size, p, none⟩ = some (.int .i64 W0) := (ht.cell p).trans (by rw [ht.is.words p hp100, ah.wp])
  have kX : wa.cell? ⟨w.heap.size, 103, none⟩ = some (.int .i64 s.x) := (ht.cell 103).trans ht.is.x
  have kM : wa.cell? ⟨w.heap.size, a, none⟩ = some (.int .i64 m) := (ht.cell a).trans (by rw [ht.is.words a halt, ah.mv])
  have kA : wa.cell? ⟨w.heap.size, 101, none⟩ = some (.int .i64 s.a) := (ht.cell 101).trans ht.is.a
  have zAt := ht.frozen 100
  have hpne : ((p : Int) == 100) = false := by simp; omega
  clear ht
  go_upto_region 5 with (fail)
  go_cut [4] (fun s4 wx => s4 = .int .i64 12 ∧ wa = wx)
  case first =>
      go_wp2_with fail
      go_meet
      exact ⟨by rw [HOPQ.out], rfl⟩
  obtain ⟨rfl, rfl⟩ := hcut
  go_upto_region 9 with (go_at_call 22; refine (In_c _ _ _ _).mono ?_; rintro e w' ⟨rfl, rfl⟩; rw [hin1])
  go_upto_if 40 with (fail)
  go_cut [5] (fun s5 wx => s5 = .int .i64 (a : Int) ∧ wa = wx)
  case first =>
      by_cases hi : 10000 ≤ W0
      · have e1 : W0 % 100 + s.x = (a : Int) := HAH.out.adhi hi
        go_wp2_with fail
        go_meet
        exact ⟨by first | rfl | rw [e1], rfl⟩
      · have e1 : W0 % 100 = (a : Int) := HAH.out.adlo (by omega)
        go_wp2_with fail
        go_meet
        exact ⟨by first | rfl | rw [e1], rfl⟩
  obtain ⟨rfl, rfl⟩ := hcut
  generalize hgs : strOfNums (Acc.signed s.a) = SG at *
  have HGS := Lib.hid hgs
  clear hgs
  go_upto_region 26 with (first | (go_at_call 22; refine (In_c _ _ _ _).mono ?_; rintro e w' ⟨rfl, rfl⟩; rw [hin2]) | (go_at_call 72; refine (HSG.out _).mono ?_; rintro e w1 ⟨rfl, hx1⟩; have HT1 := Lib.hid (HT.out.ext hx1); have hlt1 := HT1.out.lt; have kAt1 := (HT1.out.cell 100).trans (HT1.out.is.at_.trans (by rw [HAH.out.at_])); have zAt1 := HT1.out.frozen 100; have kO1 := HT1.out.cell 106; clear hx1 kAt kW kX kM kA zAt))
  refine wp_world (fun wx => Sp bad w wx { s with at_ := (p : Int) + 1 } (cs.setIfInBounds 100 (.int .i64 ((p : Int) + 1)))) (HT1.out.set (fun F h => at_set h (n := (p : Int) + 1) ⟨by omega, by omega⟩)) ?_
  intro w2 hp2
  have hlt2 := hp2.lt
  have k1002 : w2.cell? ⟨w.heap.size, 100, none⟩ = some (.int .i64 ((p : Int) + 1)) := (hp2.cell 100).trans hp2.is.at_
  have z1002 := hp2.frozen 100
  have k1032 : w2.cell? ⟨w.heap.size, 103, none⟩ = some (.int .i64 s.x) := (hp2.cell 103).trans hp2.is.x
  have z1032 := hp2.frozen 103
  have k1042 : w2.cell? ⟨w.heap.size, 104, none⟩ = some (.bool s.ov) := (hp2.cell 104).trans hp2.is.ov
  have z1042 := hp2.frozen 104
  have HP2 := Lib.hid hp2
  clear hp2 kAt1 zAt1 kO1
  have hrd := Acc.five_iff.1 (Acc.red_five (s.x - 1))
  go_upto_region 86 with (first | (go_at_call 73; refine (reduced_c _ _ ⟨by omega, by omega⟩).mono ?_; rintro e w' ⟨rfl, rfl⟩) | (go_at_call 42; refine (five_c _ _).mono ?_; rintro e w' ⟨rfl, rfl⟩; rw [HF.out]))
  refine wp_world (fun wx => Sp bad w wx { { { s with at_ := (p : Int) + 1 } with x := red (s.x - 1) } with at_ := (a : Int) } (((cs.setIfInBounds 100 (.int .i64 ((p : Int) + 1))).setIfInBounds 103 (.int .i64 (red (s.x - 1)))).setIfInBounds 100 (.int .i64 (a : Int)))) ((HP2.out.set (fun F h => x_set h (n := red (s.x - 1)) (five_i64 (Acc.red_five _)))).set (fun F h => at_set h (n := (a : Int)) ⟨by omega, by omega⟩)) ?_
  intro wf hm
  have HEQ : Hid ({ { { s with at_ := (p : Int) + 1 } with x := red (s.x - 1) } with at_ := (a : Int) } = r) := Lib.hid (by
      rw [← HR.out, eff12_eq, if_neg (by simpa using hz0), HF.out]; simp)
  have HB1 := Lib.hid hm.b1
  have HB2 := Lib.hid hm.b2
  have HSB := Lib.hid hm.is.size
  have HO := Lib.hid (dk_one hm.is)
  have hltf := hm.lt
  have HFIN := Lib.hid hm.fin
  rw [HEQ.out] at HFIN
  clear hm
  obtain ⟨cz, hcz⟩ : ∃ cz, cz = (((cs.setIfInBounds 100 (.int .i64 ((p : Int) + 1))).setIfInBounds 103 (.int .i64 (red (s.x - 1)))).setIfInBounds 100 (.int .i64 (a : Int))) := ⟨_, rfl⟩
  rw [← hcz] at HB1 HSB HO HFIN
  clear hcz
  go_wp2_with (first | refine wpList_load_row rfl 25 _ rfl w.heap.size rfl 25 cz (0, 0) _ HB1.out Tryd.underlying25 rfl (by rw [HSB.out]; exact sizeS) ?_ | refine wpList_store_row rfl 25 _ _ rfl (w.heap.size + 1) cz rfl rfl 25 zeroDk HB2.out (by rw [HSB.out]; exact sizeS) (by rw [HSB.out]; rfl) HO.out ?_)
  refine bodyPost_ret (results_one rfl _ _ (w.heap.size + 1) 25 cz (0, 0) _ rfl ?_ Tryd.underlying25 rfl (by rw [HSB.out]; exact sizeS)) rfl HFIN.out
  exact setRow_heap _ _ _ _ _ _ HB2.out
theorem dstep_12ft (bad : Nat → Prop) (cs : Array Value) (s : Dk) (w : World) (hbad : ∀ g, bad g → g < w.heap.size) (h : StAv bad w cs s) (hok : OkSt s) (hz : Acc.stopF s = 0) (hop : Acc.opF s = 12) (hf0 : five (s.x - 1) = false) (hz0 : (red (s.x - 1) != 0) = false) : Calls Tryd.prog 46 #[.agg cs] w (SpRet bad w (Acc.stepF s)) := by
  obtain ⟨p, W0, a, m, ah⟩ := ahead hok hz
  rw [stepF_go hz, hop, ah.ad, ah.at_]
  rw [hop] at ah
  obtain ⟨r, hr⟩ : ∃ r, Acc.effF { s with at_ := (p : Int) + 1 } 12 (a : Int) = r := ⟨_, rfl⟩
  rw [hr]
  have HR := Lib.hid hr
  have HBAD := Lib.hid hbad
  have HOK := Lib.hid hok
  have HAH := Lib.hid ah
  have HH := Lib.hid h
  have hp100 := ah.p100
  have hw0 := ah.w0
  have hw1 := ah.w1
  have halt := ah.alt
  have fA := Acc.five_iff.1 hok.ok.a
  have fQ := Acc.five_iff.1 hok.ok.q
  have fX := Acc.five_iff.1 hok.ok.x
  have fM := Acc.five_iff.1 ah.m5
  have hin1 : inB W0 0 19999 = true := by unfold inB; simp; omega
  have hin2 : inB (a : Int) 0 99 = true := by unfold inB; simp; omega
  have HOPQ := Lib.hid ah.op
  have HSG := Lib.hid (fun W => Signed_c s.a W hok.ok.a)
  have hsg : (strOfNums (Acc.signed s.a)).size ≤ 6 := by rw [strOfNums_size]; exact signed_len hok.ok.a
  have hwm : Acc.wordAt { s with at_ := (p : Int) + 1 } (a : Int) = m := by show s.words[((a : Nat) : Int).toNat]?.getD 0 = m; rw [Int.toNat_natCast]; exact ah.mv
  have HWM := Lib.hid hwm
  clear hwm
  clear hr hz hop hbad h
  have HF := Lib.hid hf0
  clear hf0
  go_enter Tryd.func46, Tryd.ntmps46
  go_upto_region 0 with (fail)
  go_cut [1, 2] (fun s1 s2 wx => s1 = .pointer (some ⟨w.heap.size, 0, none⟩) ∧ s2 = .pointer (some ⟨w.heap.size + 1, 0, none⟩) ∧ Sp bad w wx s cs)
  case first =>
      go_wp2_with (refine wpList_allocS rfl rfl ?_)
      go_meet
      exact ⟨rfl, by simp, Sp.mk0 HH.out⟩
  obtain ⟨rfl, rfl, ht⟩ := hcut
  obtain ⟨wa, rfl⟩ : ∃ wa : World, wa = wc := ⟨_, rfl⟩
  have HT := Lib.hid ht
  have hlta := ht.lt
  have kAt : wa.cell? ⟨w.heap.size, 100, none⟩ = some (.int .i64 (p : Int)) := (ht.cell 100).trans (by rw [ht.is.at_, ah.at_])
  have kW : wa.cell? ⟨w.heap.size, p, none⟩ = some (.int .i64 W0) := (ht.cell p).trans (by rw [ht.is.words p hp100, ah.wp])
  have kX : wa.cell? ⟨w.heap.size, 103, none⟩ = some (.int .i64 s.x) := (ht.cell 103).trans ht.is.x
  have kM : wa.cell? ⟨w.heap.size, a, none⟩ = some (.int .i64 m) := (ht.cell a).trans (by rw [ht.is.words a halt, ah.mv])
  have kA : wa.cell? ⟨w.heap.size, 101, none⟩ = some (.int .i64 s.a) := (ht.cell 101).trans ht.is.a
  have zAt := ht.frozen 100
  have hpne : ((p : Int) == 100) = false := by simp; omega
  clear ht
  go_upto_region 5 with (fail)
  go_cut [4] (fun s4 wx => s4 = .int .i64 12 ∧ wa = wx)
  case first =>
      go_wp2_with fail
      go_meet
      exact ⟨by rw [HOPQ.out], rfl⟩
  obtain ⟨rfl, rfl⟩ := hcut
  go_upto_region 9 with (go_at_call 22; refine (In_c _ _ _ _).mono ?_; rintro e w' ⟨rfl, rfl⟩; rw [hin1])
  go_upto_if 40 with (fail)
  go_cut [5] (fun s5 wx => s5 = .int .i64 (a : Int) ∧ wa = wx)
  case first =>
      by_cases hi : 10000 ≤ W0
      · have e1 : W0 % 100 + s.x = (a : Int) := HAH.out.adhi hi
        go_wp2_with fail
        go_meet
        exact ⟨by first | rfl | rw [e1], rfl⟩
      · have e1 : W0 % 100 = (a : Int) := HAH.out.adlo (by omega)
        go_wp2_with fail
        go_meet
        exact ⟨by first | rfl | rw [e1], rfl⟩
  obtain ⟨rfl, rfl⟩ := hcut
  generalize hgs : strOfNums (Acc.signed s.a) = SG at *
  have HGS := Lib.hid hgs
  clear hgs
  go_upto_region 26 with (first | (go_at_call 22; refine (In_c _ _ _ _).mono ?_; rintro e w' ⟨rfl, rfl⟩; rw [hin2]) | (go_at_call 72; refine (HSG.out _).mono ?_; rintro e w1 ⟨rfl, hx1⟩; have HT1 := Lib.hid (HT.out.ext hx1); have hlt1 := HT1.out.lt; have kAt1 := (HT1.out.cell 100).trans (HT1.out.is.at_.trans (by rw [HAH.out.at_])); have zAt1 := HT1.out.frozen 100; have kO1 := HT1.out.cell 106; clear hx1 kAt kW kX kM kA zAt))
  refine wp_world (fun wx => Sp bad w wx { s with at_ := (p : Int) + 1 } (cs.setIfInBounds 100 (.int .i64 ((p : Int) + 1)))) (HT1.out.set (fun F h => at_set h (n := (p : Int) + 1) ⟨by omega, by omega⟩)) ?_
  intro w2 hp2
  have hlt2 := hp2.lt
  have k1002 : w2.cell? ⟨w.heap.size, 100, none⟩ = some (.int .i64 ((p : Int) + 1)) := (hp2.cell 100).trans hp2.is.at_
  have z1002 := hp2.frozen 100
  have k1032 : w2.cell? ⟨w.heap.size, 103, none⟩ = some (.int .i64 s.x) := (hp2.cell 103).trans hp2.is.x
  have z1032 := hp2.frozen 103
  have k1042 : w2.cell? ⟨w.heap.size, 104, none⟩ = some (.bool s.ov) := (hp2.cell 104).trans hp2.is.ov
  have z1042 := hp2.frozen 104
  have HP2 := Lib.hid hp2
  clear hp2 kAt1 zAt1 kO1
  have hrd := Acc.five_iff.1 (Acc.red_five (s.x - 1))
  go_upto_region 86 with (first | (go_at_call 73; refine (reduced_c _ _ ⟨by omega, by omega⟩).mono ?_; rintro e w' ⟨rfl, rfl⟩) | (go_at_call 42; refine (five_c _ _).mono ?_; rintro e w' ⟨rfl, rfl⟩; rw [HF.out]))
  refine wp_world (fun wx => Sp bad w wx { { { s with at_ := (p : Int) + 1 } with x := red (s.x - 1) } with ov := true } (((cs.setIfInBounds 100 (.int .i64 ((p : Int) + 1))).setIfInBounds 103 (.int .i64 (red (s.x - 1)))).setIfInBounds 104 (.bool true))) ((HP2.out.set (fun F h => x_set h (n := red (s.x - 1)) (five_i64 (Acc.red_five _)))).set (fun F h => ov_set h true)) ?_
  intro wf hm
  have HEQ : Hid ({ { { s with at_ := (p : Int) + 1 } with x := red (s.x - 1) } with ov := true } = r) := Lib.hid (by
      rw [← HR.out, eff12_eq, if_pos (by simpa using hz0), HF.out]; simp)
  have HB1 := Lib.hid hm.b1
  have HB2 := Lib.hid hm.b2
  have HSB := Lib.hid hm.is.size
  have HO := Lib.hid (dk_one hm.is)
  have hltf := hm.lt
  have HFIN := Lib.hid hm.fin
  rw [HEQ.out] at HFIN
  clear hm
  obtain ⟨cz, hcz⟩ : ∃ cz, cz = (((cs.setIfInBounds 100 (.int .i64 ((p : Int) + 1))).setIfInBounds 103 (.int .i64 (red (s.x - 1)))).setIfInBounds 104 (.bool true)) := ⟨_, rfl⟩
  rw [← hcz] at HB1 HSB HO HFIN
  clear hcz
  go_wp2_with (first | refine wpList_load_row rfl 25 _ rfl w.heap.size rfl 25 cz (0, 0) _ HB1.out Tryd.underlying25 rfl (by rw [HSB.out]; exact sizeS) ?_ | refine wpList_store_row rfl 25 _ _ rfl (w.heap.size + 1) cz rfl rfl 25 zeroDk HB2.out (by rw [HSB.out]; exact sizeS) (by rw [HSB.out]; rfl) HO.out ?_)
  refine bodyPost_ret (results_one rfl _ _ (w.heap.size + 1) 25 cz (0, 0) _ rfl ?_ Tryd.underlying25 rfl (by rw [HSB.out]; exact sizeS)) rfl HFIN.out
  exact setRow_heap _ _ _ _ _ _ HB2.out
theorem dstep_12ff (bad : Nat → Prop) (cs : Array Value) (s : Dk) (w : World) (hbad : ∀ g, bad g → g < w.heap.size) (h : StAv bad w cs s) (hok : OkSt s) (hz : Acc.stopF s = 0) (hop : Acc.opF s = 12) (hf0 : five (s.x - 1) = false) (hz0 : (red (s.x - 1) != 0) = true) : Calls Tryd.prog 46 #[.agg cs] w (SpRet bad w (Acc.stepF s)) := by
  obtain ⟨p, W0, a, m, ah⟩ := ahead hok hz
  rw [stepF_go hz, hop, ah.ad, ah.at_]
  rw [hop] at ah
  obtain ⟨r, hr⟩ : ∃ r, Acc.effF { s with at_ := (p : Int) + 1 } 12 (a : Int) = r := ⟨_, rfl⟩
  rw [hr]
  have HR := Lib.hid hr
  have HBAD := Lib.hid hbad
  have HOK := Lib.hid hok
  have HAH := Lib.hid ah
  have HH := Lib.hid h
  have hp100 := ah.p100
  have hw0 := ah.w0
  have hw1 := ah.w1
  have halt := ah.alt
  have fA := Acc.five_iff.1 hok.ok.a
  have fQ := Acc.five_iff.1 hok.ok.q
  have fX := Acc.five_iff.1 hok.ok.x
  have fM := Acc.five_iff.1 ah.m5
  have hin1 : inB W0 0 19999 = true := by unfold inB; simp; omega
  have hin2 : inB (a : Int) 0 99 = true := by unfold inB; simp; omega
  have HOPQ := Lib.hid ah.op
  have HSG := Lib.hid (fun W => Signed_c s.a W hok.ok.a)
  have hsg : (strOfNums (Acc.signed s.a)).size ≤ 6 := by rw [strOfNums_size]; exact signed_len hok.ok.a
  have hwm : Acc.wordAt { s with at_ := (p : Int) + 1 } (a : Int) = m := by show s.words[((a : Nat) : Int).toNat]?.getD 0 = m; rw [Int.toNat_natCast]; exact ah.mv
  have HWM := Lib.hid hwm
  clear hwm
  clear hr hz hop hbad h
  have HF := Lib.hid hf0
  clear hf0
  go_enter Tryd.func46, Tryd.ntmps46
  go_upto_region 0 with (fail)
  go_cut [1, 2] (fun s1 s2 wx => s1 = .pointer (some ⟨w.heap.size, 0, none⟩) ∧ s2 = .pointer (some ⟨w.heap.size + 1, 0, none⟩) ∧ Sp bad w wx s cs)
  case first =>
      go_wp2_with (refine wpList_allocS rfl rfl ?_)
      go_meet
      exact ⟨rfl, by simp, Sp.mk0 HH.out⟩
  obtain ⟨rfl, rfl, ht⟩ := hcut
  obtain ⟨wa, rfl⟩ : ∃ wa : World, wa = wc := ⟨_, rfl⟩
  have HT := Lib.hid ht
  have hlta := ht.lt
  have kAt : wa.cell? ⟨w.heap.size, 100, none⟩ = some (.int .i64 (p : Int)) := (ht.cell 100).trans (by rw [ht.is.at_, ah.at_])
  have kW : wa.cell? ⟨w.heap.size, p, none⟩ = some (.int .i64 W0) := (ht.cell p).trans (by rw [ht.is.words p hp100, ah.wp])
  have kX : wa.cell? ⟨w.heap.size, 103, none⟩ = some (.int .i64 s.x) := (ht.cell 103).trans ht.is.x
  have kM : wa.cell? ⟨w.heap.size, a, none⟩ = some (.int .i64 m) := (ht.cell a).trans (by rw [ht.is.words a halt, ah.mv])
  have kA : wa.cell? ⟨w.heap.size, 101, none⟩ = some (.int .i64 s.a) := (ht.cell 101).trans ht.is.a
  have zAt := ht.frozen 100
  have hpne : ((p : Int) == 100) = false := by simp; omega
  clear ht
  go_upto_region 5 with (fail)
  go_cut [4] (fun s4 wx => s4 = .int .i64 12 ∧ wa = wx)
  case first =>
      go_wp2_with fail
      go_meet
      exact ⟨by rw [HOPQ.out], rfl⟩
  obtain ⟨rfl, rfl⟩ := hcut
  go_upto_region 9 with (go_at_call 22; refine (In_c _ _ _ _).mono ?_; rintro e w' ⟨rfl, rfl⟩; rw [hin1])
  go_upto_if 40 with (fail)
  go_cut [5] (fun s5 wx => s5 = .int .i64 (a : Int) ∧ wa = wx)
  case first =>
      by_cases hi : 10000 ≤ W0
      · have e1 : W0 % 100 + s.x = (a : Int) := HAH.out.adhi hi
        go_wp2_with fail
        go_meet
        exact ⟨by first | rfl | rw [e1], rfl⟩
      · have e1 : W0 % 100 = (a : Int) := HAH.out.adlo (by omega)
        go_wp2_with fail
        go_meet
        exact ⟨by first | rfl | rw [e1], rfl⟩
  obtain ⟨rfl, rfl⟩ := hcut
  generalize hgs : strOfNums (Acc.signed s.a) = SG at *
  have HGS := Lib.hid hgs
  clear hgs
  go_upto_region 26 with (first | (go_at_call 22; refine (In_c _ _ _ _).mono ?_; rintro e w' ⟨rfl, rfl⟩; rw [hin2]) | (go_at_call 72; refine (HSG.out _).mono ?_; rintro e w1 ⟨rfl, hx1⟩; have HT1 := Lib.hid (HT.out.ext hx1); have hlt1 := HT1.out.lt; have kAt1 := (HT1.out.cell 100).trans (HT1.out.is.at_.trans (by rw [HAH.out.at_])); have zAt1 := HT1.out.frozen 100; have kO1 := HT1.out.cell 106; clear hx1 kAt kW kX kM kA zAt))
  refine wp_world (fun wx => Sp bad w wx { s with at_ := (p : Int) + 1 } (cs.setIfInBounds 100 (.int .i64 ((p : Int) + 1)))) (HT1.out.set (fun F h => at_set h (n := (p : Int) + 1) ⟨by omega, by omega⟩)) ?_
  intro w2 hp2
  have hlt2 := hp2.lt
  have k1002 : w2.cell? ⟨w.heap.size, 100, none⟩ = some (.int .i64 ((p : Int) + 1)) := (hp2.cell 100).trans hp2.is.at_
  have z1002 := hp2.frozen 100
  have k1032 : w2.cell? ⟨w.heap.size, 103, none⟩ = some (.int .i64 s.x) := (hp2.cell 103).trans hp2.is.x
  have z1032 := hp2.frozen 103
  have k1042 : w2.cell? ⟨w.heap.size, 104, none⟩ = some (.bool s.ov) := (hp2.cell 104).trans hp2.is.ov
  have z1042 := hp2.frozen 104
  have HP2 := Lib.hid hp2
  clear hp2 kAt1 zAt1 kO1
  have hrd := Acc.five_iff.1 (Acc.red_five (s.x - 1))
  go_upto_region 86 with (first | (go_at_call 73; refine (reduced_c _ _ ⟨by omega, by omega⟩).mono ?_; rintro e w' ⟨rfl, rfl⟩) | (go_at_call 42; refine (five_c _ _).mono ?_; rintro e w' ⟨rfl, rfl⟩; rw [HF.out]))
  refine wp_world (fun wx => Sp bad w wx { { { { s with at_ := (p : Int) + 1 } with x := red (s.x - 1) } with at_ := (a : Int) } with ov := true } ((((cs.setIfInBounds 100 (.int .i64 ((p : Int) + 1))).setIfInBounds 103 (.int .i64 (red (s.x - 1)))).setIfInBounds 100 (.int .i64 (a : Int))).setIfInBounds 104 (.bool true))) (((HP2.out.set (fun F h => x_set h (n := red (s.x - 1)) (five_i64 (Acc.red_five _)))).set (fun F h => at_set h (n := (a : Int)) ⟨by omega, by omega⟩)).set (fun F h => ov_set h true)) ?_
  intro wf hm
  have HEQ : Hid ({ { { { s with at_ := (p : Int) + 1 } with x := red (s.x - 1) } with at_ := (a : Int) } with ov := true } = r) := Lib.hid (by
      rw [← HR.out, eff12_eq, if_neg (by simpa using hz0), HF.out]; simp)
  have HB1 := Lib.hid hm.b1
  have HB2 := Lib.hid hm.b2
  have HSB := Lib.hid hm.is.size
  have HO := Lib.hid (dk_one hm.is)
  have hltf := hm.lt
  have HFIN := Lib.hid hm.fin
  rw [HEQ.out] at HFIN
  clear hm
  obtain ⟨cz, hcz⟩ : ∃ cz, cz = ((((cs.setIfInBounds 100 (.int .i64 ((p : Int) + 1))).setIfInBounds 103 (.int .i64 (red (s.x - 1)))).setIfInBounds 100 (.int .i64 (a : Int))).setIfInBounds 104 (.bool true)) := ⟨_, rfl⟩
  rw [← hcz] at HB1 HSB HO HFIN
  clear hcz
  go_wp2_with (first | refine wpList_load_row rfl 25 _ rfl w.heap.size rfl 25 cz (0, 0) _ HB1.out Tryd.underlying25 rfl (by rw [HSB.out]; exact sizeS) ?_ | refine wpList_store_row rfl 25 _ _ rfl (w.heap.size + 1) cz rfl rfl 25 zeroDk HB2.out (by rw [HSB.out]; exact sizeS) (by rw [HSB.out]; rfl) HO.out ?_)
  refine bodyPost_ret (results_one rfl _ _ (w.heap.size + 1) 25 cz (0, 0) _ rfl ?_ Tryd.underlying25 rfl (by rw [HSB.out]; exact sizeS)) rfl HFIN.out
  exact setRow_heap _ _ _ _ _ _ HB2.out
end Go.Proofs.YtbaahbpianingaaDoor
namespace Go.Proofs.YtbaahbpianingaaDoor
open Go Go.Proofs Go.RowKit
open Acc (Dk red five)
set_option maxHeartbeats 12800000
set_option maxRecDepth 100000
theorem dstep_10t (bad : Nat → Prop) (cs : Array Value) (s : Dk) (w : World) (hbad : ∀ g, bad g → g < w.heap.size) (h : StAv bad w cs s) (hok : OkSt s) (hz : Acc.stopF s = 0) (hop : Acc.opF s = 10) (hov0 : s.ov = true) : Calls Tryd.prog 46 #[.agg cs] w (SpRet bad w (Acc.stepF s)) := by
  obtain ⟨p, W0, a, m, ah⟩ := ahead hok hz
  rw [stepF_go hz, hop, ah.ad, ah.at_]
  rw [hop] at ah
  obtain ⟨r, hr⟩ : ∃ r, Acc.effF { s with at_ := (p : Int) + 1 } 10 (a : Int) = r := ⟨_, rfl⟩
  rw [hr]
  have HR := Lib.hid hr
  have HBAD := Lib.hid hbad
  have HOK := Lib.hid hok
  have HAH := Lib.hid ah
  have HH := Lib.hid h
  have hp100 := ah.p100
  have hw0 := ah.w0
  have hw1 := ah.w1
  have halt := ah.alt
  have fA := Acc.five_iff.1 hok.ok.a
  have fQ := Acc.five_iff.1 hok.ok.q
  have fX := Acc.five_iff.1 hok.ok.x
  have fM := Acc.five_iff.1 ah.m5
  have hin1 : inB W0 0 19999 = true := by unfold inB; simp; omega
  have hin2 : inB (a : Int) 0 99 = true := by unfold inB; simp; omega
  have HOPQ := Lib.hid ah.op
  have HSG := Lib.hid (fun W => Signed_c s.a W hok.ok.a)
  have hsg : (strOfNums (Acc.signed s.a)).size ≤ 6 := by rw [strOfNums_size]; exact signed_len hok.ok.a
  have hwm : Acc.wordAt { s with at_ := (p : Int) + 1 } (a : Int) = m := by show s.words[((a : Nat) : Int).toNat]?.getD 0 = m; rw [Int.toNat_natCast]; exact ah.mv
  have HWM := Lib.hid hwm
  clear hwm
  clear hr hz hop hbad h
  have HOV := Lib.hid hov0
  clear hov0
  go_enter Tryd.func46, Tryd.ntmps46
  go_upto_region 0 with (fail)
  go_cut [1, 2] (fun s1 s2 wx => s1 = .pointer (some ⟨w.heap.size, 0, none⟩) ∧ s2 = .pointer (some ⟨w.heap.size + 1, 0, none⟩) ∧ Sp bad w wx s cs)
  case first =>
      go_wp2_with (refine wpList_allocS rfl rfl ?_)
      go_meet
      exact ⟨rfl, by simp, Sp.mk0 HH.out⟩
  obtain ⟨rfl, rfl, ht⟩ := hcut
  obtain ⟨wa, rfl⟩ : ∃ wa : World, wa = wc := ⟨_, rfl⟩
  have HT := Lib.hid ht
  have hlta := ht.lt
  have kAt : wa.cell? ⟨w.heap.size, 100, none⟩ = some (.int .i64 (p : Int)) := (ht.cell 100).trans (by rw [ht.is.at_, ah.at_])
  have kW : wa.cell? ⟨w.heap.size, p, none⟩ = some (.int .i64 W0) := (ht.cell p).trans (by rw [ht.is.words p hp100, ah.wp])
  have kX : wa.cell? ⟨w.heap.size, 103, none⟩ = some (.int .i64 s.x) := (ht.cell 103).trans ht.is.x
  have kM : wa.cell? ⟨w.heap.size, a, none⟩ = some (.int .i64 m) := (ht.cell a).trans (by rw [ht.is.words a halt, ah.mv])
  have kA : wa.cell? ⟨w.heap.size, 101, none⟩ = some (.int .i64 s.a) := (ht.cell 101).trans ht.is.a
  have zAt := ht.frozen 100
  have hpne : ((p : Int) == 100) = false := by simp; omega
  clear ht
  go_upto_region 5 with (fail)
  go_cut [4] (fun s4 wx => s4 = .int .i64 10 ∧ wa = wx)
  case first =>
      go_wp2_with fail
      go_meet
      exact ⟨by rw [HOPQ.out], rfl⟩
  obtain ⟨rfl, rfl⟩ := hcut
  go_upto_region 9 with (go_at_call 22; refine (In_c _ _ _ _).mono ?_; rintro e w' ⟨rfl, rfl⟩; rw [hin1])
  go_upto_if 40 with (fail)
  go_cut [5] (fun s5 wx => s5 = .int .i64 (a : Int) ∧ wa = wx)
  case first =>
      by_cases hi : 10000 ≤ W0
      · have e1 : W0 % 100 + s.x = (a : Int) := HAH.out.adhi hi
        go_wp2_with fail
        go_meet
        exact ⟨by first | rfl | rw [e1], rfl⟩
      · have e1 : W0 % 100 = (a : Int) := HAH.out.adlo (by omega)
        go_wp2_with fail
        go_meet
        exact ⟨by first | rfl | rw [e1], rfl⟩
  obtain ⟨rfl, rfl⟩ := hcut
  generalize hgs : strOfNums (Acc.signed s.a) = SG at *
  have HGS := Lib.hid hgs
  clear hgs
  go_upto_region 26 with (first | (go_at_call 22; refine (In_c _ _ _ _).mono ?_; rintro e w' ⟨rfl, rfl⟩; rw [hin2]) | (go_at_call 72; refine (HSG.out _).mono ?_; rintro e w1 ⟨rfl, hx1⟩; have HT1 := Lib.hid (HT.out.ext hx1); have hlt1 := HT1.out.lt; have kAt1 := (HT1.out.cell 100).trans (HT1.out.is.at_.trans (by rw [HAH.out.at_])); have zAt1 := HT1.out.frozen 100; have kO1 := HT1.out.cell 106; clear hx1 kAt kW kX kM kA zAt))
  refine wp_world (fun wx => Sp bad w wx { s with at_ := (p : Int) + 1 } (cs.setIfInBounds 100 (.int .i64 ((p : Int) + 1)))) (HT1.out.set (fun F h => at_set h (n := (p : Int) + 1) ⟨by omega, by omega⟩)) ?_
  intro w2 hp2
  have hlt2 := hp2.lt
  have k1002 : w2.cell? ⟨w.heap.size, 100, none⟩ = some (.int .i64 ((p : Int) + 1)) := (hp2.cell 100).trans hp2.is.at_
  have z1002 := hp2.frozen 100
  have k1042 : w2.cell? ⟨w.heap.size, 104, none⟩ = some (.bool s.ov) := (hp2.cell 104).trans hp2.is.ov
  have z1042 := hp2.frozen 104
  have HP2 := Lib.hid hp2
  clear hp2 kAt1 zAt1 kO1
  rw [HOV.out] at k1042
  go_upto_region 86 with ((go_at_call 42; refine (five_c _ _).mono ?_; rintro e w' ⟨rfl, rfl⟩; rw [show five 0 = true from rfl]))
  refine wp_world (fun wx => Sp bad w wx { { { s with at_ := (p : Int) + 1 } with at_ := (a : Int) } with ov := false } (((cs.setIfInBounds 100 (.int .i64 ((p : Int) + 1))).setIfInBounds 100 (.int .i64 (a : Int))).setIfInBounds 104 (.bool false))) ((HP2.out.set (fun F h => at_set h (n := (a : Int)) ⟨by omega, by omega⟩)).set (fun F h => ov_set h false)) ?_
  intro wf hm
  have HEQ : Hid ({ { { s with at_ := (p : Int) + 1 } with at_ := (a : Int) } with ov := false } = r) := Lib.hid (by
      rw [← HR.out, eff10_eq, if_pos HOV.out])
  have HB1 := Lib.hid hm.b1
  have HB2 := Lib.hid hm.b2
  have HSB := Lib.hid hm.is.size
  have HO := Lib.hid (dk_one hm.is)
  have hltf := hm.lt
  have HFIN := Lib.hid hm.fin
  rw [HEQ.out] at HFIN
  clear hm
  obtain ⟨cz, hcz⟩ : ∃ cz, cz = (((cs.setIfInBounds 100 (.int .i64 ((p : Int) + 1))).setIfInBounds 100 (.int .i64 (a : Int))).setIfInBounds 104 (.bool false)) := ⟨_, rfl⟩
  rw [← hcz] at HB1 HSB HO HFIN
  clear hcz
  go_wp2_with (first | refine wpList_load_row rfl 25 _ rfl w.heap.size rfl 25 cz (0, 0) _ HB1.out Tryd.underlying25 rfl (by rw [HSB.out]; exact sizeS) ?_ | refine wpList_store_row rfl 25 _ _ rfl (w.heap.size + 1) cz rfl rfl 25 zeroDk HB2.out (by rw [HSB.out]; exact sizeS) (by rw [HSB.out]; rfl) HO.out ?_)
  refine bodyPost_ret (results_one rfl _ _ (w.heap.size + 1) 25 cz (0, 0) _ rfl ?_ Tryd.underlying25 rfl (by rw [HSB.out]; exact sizeS)) rfl HFIN.out
  exact setRow_heap _ _ _ _ _ _ HB2.out
theorem dstep_10f (bad : Nat → Prop) (cs : Array Value) (s : Dk) (w : World) (hbad : ∀ g, bad g → g < w.heap.size) (h : StAv bad w cs s) (hok : OkSt s) (hz : Acc.stopF s = 0) (hop : Acc.opF s = 10) (hov0 : s.ov = false) : Calls Tryd.prog 46 #[.agg cs] w (SpRet bad w (Acc.stepF s)) := by
  obtain ⟨p, W0, a, m, ah⟩ := ahead hok hz
  rw [stepF_go hz, hop, ah.ad, ah.at_]
  rw [hop] at ah
  obtain ⟨r, hr⟩ : ∃ r, Acc.effF { s with at_ := (p : Int) + 1 } 10 (a : Int) = r := ⟨_, rfl⟩
  rw [hr]
  have HR := Lib.hid hr
  have HBAD := Lib.hid hbad
  have HOK := Lib.hid hok
  have HAH := Lib.hid ah
  have HH := Lib.hid h
  have hp100 := ah.p100
  have hw0 := ah.w0
  have hw1 := ah.w1
  have halt := ah.alt
  have fA := Acc.five_iff.1 hok.ok.a
  have fQ := Acc.five_iff.1 hok.ok.q
  have fX := Acc.five_iff.1 hok.ok.x
  have fM := Acc.five_iff.1 ah.m5
  have hin1 : inB W0 0 19999 = true := by unfold inB; simp; omega
  have hin2 : inB (a : Int) 0 99 = true := by unfold inB; simp; omega
  have HOPQ := Lib.hid ah.op
  have HSG := Lib.hid (fun W => Signed_c s.a W hok.ok.a)
  have hsg : (strOfNums (Acc.signed s.a)).size ≤ 6 := by rw [strOfNums_size]; exact signed_len hok.ok.a
  have hwm : Acc.wordAt { s with at_ := (p : Int) + 1 } (a : Int) = m := by show s.words[((a : Nat) : Int).toNat]?.getD 0 = m; rw [Int.toNat_natCast]; exact ah.mv
  have HWM := Lib.hid hwm
  clear hwm
  clear hr hz hop hbad h
  have HOV := Lib.hid hov0
  clear hov0
  go_enter Tryd.func46, Tryd.ntmps46
  go_upto_region 0 with (fail)
  go_cut [1, 2] (fun s1 s2 wx => s1 = .pointer (some ⟨w.heap.size, 0, none⟩) ∧ s2 = .pointer (some ⟨w.heap.size + 1, 0, none⟩) ∧ Sp bad w wx s cs)
  case first =>
      go_wp2_with (refine wpList_allocS rfl rfl ?_)
      go_meet
      exact ⟨rfl, by simp, Sp.mk0 HH.out⟩
  obtain ⟨rfl, rfl, ht⟩ := hcut
  obtain ⟨wa, rfl⟩ : ∃ wa : World, wa = wc := ⟨_, rfl⟩
  have HT := Lib.hid ht
  have hlta := ht.lt
  have kAt : wa.cell? ⟨w.heap.size, 100, none⟩ = some (.int .i64 (p : Int)) := (ht.cell 100).trans (by rw [ht.is.at_, ah.at_])
  have kW : wa.cell? ⟨w.heap.size, p, none⟩ = some (.int .i64 W0) := (ht.cell p).trans (by rw [ht.is.words p hp100, ah.wp])
  have kX : wa.cell? ⟨w.heap.size, 103, none⟩ = some (.int .i64 s.x) := (ht.cell 103).trans ht.is.x
  have kM : wa.cell? ⟨w.heap.size, a, none⟩ = some (.int .i64 m) := (ht.cell a).trans (by rw [ht.is.words a halt, ah.mv])
  have kA : wa.cell? ⟨w.heap.size, 101, none⟩ = some (.int .i64 s.a) := (ht.cell 101).trans ht.is.a
  have zAt := ht.frozen 100
  have hpne : ((p : Int) == 100) = false := by simp; omega
  clear ht
  go_upto_region 5 with (fail)
  go_cut [4] (fun s4 wx => s4 = .int .i64 10 ∧ wa = wx)
  case first =>
      go_wp2_with fail
      go_meet
      exact ⟨by rw [HOPQ.out], rfl⟩
  obtain ⟨rfl, rfl⟩ := hcut
  go_upto_region 9 with (go_at_call 22; refine (In_c _ _ _ _).mono ?_; rintro e w' ⟨rfl, rfl⟩; rw [hin1])
  go_upto_if 40 with (fail)
  go_cut [5] (fun s5 wx => s5 = .int .i64 (a : Int) ∧ wa = wx)
  case first =>
      by_cases hi : 10000 ≤ W0
      · have e1 : W0 % 100 + s.x = (a : Int) := HAH.out.adhi hi
        go_wp2_with fail
        go_meet
        exact ⟨by first | rfl | rw [e1], rfl⟩
      · have e1 : W0 % 100 = (a : Int) := HAH.out.adlo (by omega)
        go_wp2_with fail
        go_meet
        exact ⟨by first | rfl | rw [e1], rfl⟩
  obtain ⟨rfl, rfl⟩ := hcut
  generalize hgs : strOfNums (Acc.signed s.a) = SG at *
  have HGS := Lib.hid hgs
  clear hgs
  go_upto_region 26 with (first | (go_at_call 22; refine (In_c _ _ _ _).mono ?_; rintro e w' ⟨rfl, rfl⟩; rw [hin2]) | (go_at_call 72; refine (HSG.out _).mono ?_; rintro e w1 ⟨rfl, hx1⟩; have HT1 := Lib.hid (HT.out.ext hx1); have hlt1 := HT1.out.lt; have kAt1 := (HT1.out.cell 100).trans (HT1.out.is.at_.trans (by rw [HAH.out.at_])); have zAt1 := HT1.out.frozen 100; have kO1 := HT1.out.cell 106; clear hx1 kAt kW kX kM kA zAt))
  refine wp_world (fun wx => Sp bad w wx { s with at_ := (p : Int) + 1 } (cs.setIfInBounds 100 (.int .i64 ((p : Int) + 1)))) (HT1.out.set (fun F h => at_set h (n := (p : Int) + 1) ⟨by omega, by omega⟩)) ?_
  intro w2 hp2
  have hlt2 := hp2.lt
  have k1002 : w2.cell? ⟨w.heap.size, 100, none⟩ = some (.int .i64 ((p : Int) + 1)) := (hp2.cell 100).trans hp2.is.at_
  have z1002 := hp2.frozen 100
  have k1042 : w2.cell? ⟨w.heap.size, 104, none⟩ = some (.bool s.ov) := (hp2.cell 104).trans hp2.is.ov
  have z1042 := hp2.frozen 104
  have HP2 := Lib.hid hp2
  clear hp2 kAt1 zAt1 kO1
  rw [HOV.out] at k1042
  go_upto_region 86 with ((go_at_call 42; refine (five_c _ _).mono ?_; rintro e w' ⟨rfl, rfl⟩; rw [show five 0 = true from rfl]))
  refine wp_world (fun wx => Sp bad w wx { { s with at_ := (p : Int) + 1 } with ov := false } ((cs.setIfInBounds 100 (.int .i64 ((p : Int) + 1))).setIfInBounds 104 (.bool false))) (HP2.out.set (fun F h => ov_set h false)) ?_
  intro wf hm
  have HEQ : Hid ({ { s with at_ := (p : Int) + 1 } with ov := false } = r) := Lib.hid (by
      rw [← HR.out, eff10_eq, if_neg (by rw [HOV.out]; decide)])
  have HB1 := Lib.hid hm.b1
  have HB2 := Lib.hid hm.b2
  have HSB := Lib.hid hm.is.size
  have HO := Lib.hid (dk_one hm.is)
  have hltf := hm.lt
  have HFIN := Lib.hid hm.fin
  rw [HEQ.out] at HFIN
  clear hm
  obtain ⟨cz, hcz⟩ : ∃ cz, cz = ((cs.setIfInBounds 100 (.int .i64 ((p : Int) + 1))).setIfInBounds 104 (.bool false)) := ⟨_, rfl⟩
  rw [← hcz] at HB1 HSB HO HFIN
  clear hcz
  go_wp2_with (first | refine wpList_load_row rfl 25 _ rfl w.heap.size rfl 25 cz (0, 0) _ HB1.out Tryd.underlying25 rfl (by rw [HSB.out]; exact sizeS) ?_ | refine wpList_store_row rfl 25 _ _ rfl (w.heap.size + 1) cz rfl rfl 25 zeroDk HB2.out (by rw [HSB.out]; exact sizeS) (by rw [HSB.out]; rfl) HO.out ?_)
  refine bodyPost_ret (results_one rfl _ _ (w.heap.size + 1) 25 cz (0, 0) _ rfl ?_ Tryd.underlying25 rfl (by rw [HSB.out]; exact sizeS)) rfl HFIN.out
  exact setRow_heap _ _ _ _ _ _ HB2.out
end Go.Proofs.YtbaahbpianingaaDoor
