import Derived.Test.YtbaahbpianingaaDoorSpQ
namespace Go.Proofs.YtbaahbpianingaaDoor
open Go Go.Proofs Go.RowKit
open Acc (Dk red five)
set_option maxHeartbeats 12800000
set_option maxRecDepth 100000
theorem dstep_0 (bad : Nat → Prop) (cs : Array Value) (s : Dk) (w : World) (hbad : ∀ g, bad g → g < w.heap.size) (h : StAv bad w cs s) (hok : OkSt s) (hz : Acc.stopF s = 0) (hop : Acc.opF s = 0) : Calls Tryd.prog 46 #[.agg cs] w (SpRet bad w (Acc.stepF s)) := by
  obtain ⟨p, W0, a, m, ah⟩ := ahead hok hz
  rw [stepF_go hz, hop, ah.ad, ah.at_]
  rw [hop] at ah
  obtain ⟨r, hr⟩ : ∃ r, Acc.effF { s with at_ := (p : Int) + 1 } 0 (a : Int) = r := ⟨_, rfl⟩
  rw [hr]
  have HR := Lib.hid hr
  have HBAD := Lib.hid hbad
  have HOK := Lib.hid hok
  have HAH := Lib.hid ah
  have HH := Lib.hid h
  have hp100 := ah.p100
  have hw0 := ah.w0
  have hw1 := ah.w1
  have halt := ah.alt
  have fA := Acc.five_iff.1 hok.ok.a
  have fQ := Acc.five_iff.1 hok.ok.q
  have fX := Acc.five_iff.1 hok.ok.x
  have fM := Acc.five_iff.1 ah.m5
  have hin1 : inB W0 0 19999 = true := by unfold inB; simp; omega
  have hin2 : inB (a : Int) 0 99 = true := by unfold inB; simp; omega
  have HOPQ := Lib.hid ah.op
  have HSG := Lib.hid (fun W => Signed_c s.a W hok.ok.a)
  have hsg : (strOfNums (Acc.signed s.a)).size ≤ 6 := by rw [strOfNums_size]; exact signed_len hok.ok.a
  have hwm : Acc.wordAt { s with at_ := (p : Int) + 1 } (a : Int) = m := by show s.words[((a : Nat) : Int).toNat]?.getD 0 = m; rw [Int.toNat_natCast]; exact ah.mv
  have HWM := Lib.hid hwm
  clear hwm
  clear hr hz hop hbad h
  go_enter Tryd.func46, Tryd.ntmps46
  go_upto_region 0 with (fail)
  go_cut [1, 2] (fun s1 s2 wx => s1 = .pointer (some ⟨w.heap.size, 0, none⟩) ∧ s2 = .pointer (some ⟨w.heap.size + 1, 0, none⟩) ∧ Sp bad w wx s cs)
  case first =>
      go_wp2_with (refine wpList_allocS rfl rfl ?_)
      go_meet
      exact ⟨rfl, by simp, Sp.mk0 HH.out⟩
  obtain ⟨rfl, rfl, ht⟩ := hcut
  obtain ⟨wa, rfl⟩ : ∃ wa : World, wa = wc := ⟨_, rfl⟩
  have HT := Lib.hid ht
  have hlta := ht.lt
  have kAt : wa.cell? ⟨w.heap.size, 100, none⟩ = some (.int .i64 (p : Int)) := (ht.cell 100).trans (by rw [ht.is.at_, ah.at_])
  have kW : wa.cell? ⟨w.heap.size, p, none⟩ = some (.int .i64 W0) := (ht.cell p).trans (by rw [ht.is.words p hp100, ah.wp])
  have kX : wa.cell? ⟨w.heap.size, 103, none⟩ = some (.int .i64 s.x) := (ht.cell 103).trans ht.is.x
  have kM : wa.cell? ⟨w.heap.size, a, none⟩ = some (.int .i64 m) := (ht.cell a).trans (by rw [ht.is.words a halt, ah.mv])
  have kA : wa.cell? ⟨w.heap.size, 101, none⟩ = some (.int .i64 s.a) := (ht.cell 101).trans ht.is.a
  have zAt := ht.frozen 100
  have hpne : ((p : Int) == 100) = false := by simp; omega
  clear ht
  go_upto_region 5 with (fail)
  go_cut [4] (fun s4 wx => s4 = .int .i64 0 ∧ wa = wx)
  case first =>
      go_wp2_with fail
      go_meet
      exact ⟨by rw [HOPQ.out], rfl⟩
  obtain ⟨rfl, rfl⟩ := hcut
  go_upto_region 9 with (go_at_call 22; refine (In_c _ _ _ _).mono ?_; rintro e w' ⟨rfl, rfl⟩; rw [hin1])
  go_upto_if 40 with (fail)
  go_cut [5] (fun s5 wx => s5 = .int .i64 (a : Int) ∧ wa = wx)
  case first =>
      by_cases hi : 10000 ≤ W0
      · have e1 : W0 % 100 + s.x = (a : Int) := HAH.out.adhi hi
        go_wp2_with fail
        go_meet
        exact ⟨by first | rfl | rw [e1], rfl⟩
      · have e1 : W0 % 100 = (a : Int) := HAH.out.adlo (by omega)
        go_wp2_with fail
        go_meet
        exact ⟨by first | rfl | rw [e1], rfl⟩
  obtain ⟨rfl, rfl⟩ := hcut
  generalize hgs : strOfNums (Acc.signed s.a) = SG at *
  have HGS := Lib.hid hgs
  clear hgs
  go_upto_region 26 with (first | (go_at_call 22; refine (In_c _ _ _ _).mono ?_; rintro e w' ⟨rfl, rfl⟩; rw [hin2]) | (go_at_call 72; refine (HSG.out _).mono ?_; rintro e w1 ⟨rfl, hx1⟩; have HT1 := Lib.hid (HT.out.ext hx1); have hlt1 := HT1.out.lt; have kAt1 := (HT1.out.cell 100).trans (HT1.out.is.at_.trans (by rw [HAH.out.at_])); have zAt1 := HT1.out.frozen 100; have kO1 := HT1.out.cell 106; clear hx1 kAt kW kX kM kA zAt))
  refine wp_world (fun wx => Sp bad w wx { s with at_ := (p : Int) + 1 } (cs.setIfInBounds 100 (.int .i64 ((p : Int) + 1)))) (HT1.out.set (fun F h => at_set h (n := (p : Int) + 1) ⟨by omega, by omega⟩)) ?_
  intro w2 hp2
  have hlt2 := hp2.lt
  have k1072 : w2.cell? ⟨w.heap.size, 107, none⟩ = some (.int .i64 s.stop) := (hp2.cell 107).trans hp2.is.stop
  have z1072 := hp2.frozen 107
  have HP2 := Lib.hid hp2
  clear hp2 kAt1 zAt1 kO1
  go_upto_region 86 with ((go_at_call 42; refine (five_c _ _).mono ?_; rintro e w' ⟨rfl, rfl⟩; rw [show five 0 = true from rfl]))
  refine wp_world (fun wx => Sp bad w wx { { s with at_ := (p : Int) + 1 } with stop := 1 } ((cs.setIfInBounds 100 (.int .i64 ((p : Int) + 1))).setIfInBounds 107 (.int .i64 1))) (HP2.out.set (fun F h => stop_set h (n := 1) ⟨by omega, by omega⟩)) ?_
  intro wf hm
  have HEQ : Hid ({ { s with at_ := (p : Int) + 1 } with stop := 1 } = r) := Lib.hid (by
      rw [← HR.out, eff0_eq])
  have HB1 := Lib.hid hm.b1
  have HB2 := Lib.hid hm.b2
  have HSB := Lib.hid hm.is.size
  have HO := Lib.hid (dk_one hm.is)
  have hltf := hm.lt
  have HFIN := Lib.hid hm.fin
  rw [HEQ.out] at HFIN
  clear hm
  obtain ⟨cz, hcz⟩ : ∃ cz, cz = ((cs.setIfInBounds 100 (.int .i64 ((p : Int) + 1))).setIfInBounds 107 (.int .i64 1)) := ⟨_, rfl⟩
  rw [← hcz] at HB1 HSB HO HFIN
  clear hcz
  go_wp2_with (first | refine wpList_load_row rfl 25 _ rfl w.heap.size rfl 25 cz (0, 0) _ HB1.out Tryd.underlying25 rfl (by rw [HSB.out]; exact sizeS) ?_ | refine wpList_store_row rfl 25 _ _ rfl (w.heap.size + 1) cz rfl rfl 25 zeroDk HB2.out (by rw [HSB.out]; exact sizeS) (by rw [HSB.out]; rfl) HO.out ?_)
  refine bodyPost_ret (results_one rfl _ _ (w.heap.size + 1) 25 cz (0, 0) _ rfl ?_ Tryd.underlying25 rfl (by rw [HSB.out]; exact sizeS)) rfl HFIN.out
  exact setRow_heap _ _ _ _ _ _ HB2.out
end Go.Proofs.YtbaahbpianingaaDoor
namespace Go.Proofs.YtbaahbpianingaaDoor
open Go Go.Proofs Go.RowKit
open Acc (Dk red five)
set_option maxHeartbeats 12800000
set_option maxRecDepth 100000
theorem dstep_1 (bad : Nat → Prop) (cs : Array Value) (s : Dk) (w : World) (hbad : ∀ g, bad g → g < w.heap.size) (h : StAv bad w cs s) (hok : OkSt s) (hz : Acc.stopF s = 0) (hop : Acc.opF s = 1) : Calls Tryd.prog 46 #[.agg cs] w (SpRet bad w (Acc.stepF s)) := by
  obtain ⟨p, W0, a, m, ah⟩ := ahead hok hz
  rw [stepF_go hz, hop, ah.ad, ah.at_]
  rw [hop] at ah
  obtain ⟨r, hr⟩ : ∃ r, Acc.effF { s with at_ := (p : Int) + 1 } 1 (a : Int) = r := ⟨_, rfl⟩
  rw [hr]
  have HR := Lib.hid hr
  have HBAD := Lib.hid hbad
  have HOK := Lib.hid hok
  have HAH := Lib.hid ah
  have HH := Lib.hid h
  have hp100 := ah.p100
  have hw0 := ah.w0
  have hw1 := ah.w1
  have halt := ah.alt
  have fA := Acc.five_iff.1 hok.ok.a
  have fQ := Acc.five_iff.1 hok.ok.q
  have fX := Acc.five_iff.1 hok.ok.x
  have fM := Acc.five_iff.1 ah.m5
  have hin1 : inB W0 0 19999 = true := by unfold inB; simp; omega
  have hin2 : inB (a : Int) 0 99 = true := by unfold inB; simp; omega
  have HOPQ := Lib.hid ah.op
  have HSG := Lib.hid (fun W => Signed_c s.a W hok.ok.a)
  have hsg : (strOfNums (Acc.signed s.a)).size ≤ 6 := by rw [strOfNums_size]; exact signed_len hok.ok.a
  have hwm : Acc.wordAt { s with at_ := (p : Int) + 1 } (a : Int) = m := by show s.words[((a : Nat) : Int).toNat]?.getD 0 = m; rw [Int.toNat_natCast]; exact ah.mv
  have HWM := Lib.hid hwm
  clear hwm
  clear hr hz hop hbad h
  go_enter Tryd.func46, Tryd.ntmps46
  go_upto_region 0 with (fail)
  go_cut [1, 2] (fun s1 s2 wx => s1 = .pointer (some ⟨w.heap.size, 0, none⟩) ∧ s2 = .pointer (some ⟨w.heap.size + 1, 0, none⟩) ∧ Sp bad w wx s cs)
  case first =>
      go_wp2_with (refine wpList_allocS rfl rfl ?_)
      go_meet
      exact ⟨rfl, by simp, Sp.mk0 HH.out⟩
  obtain ⟨rfl, rfl, ht⟩ := hcut
  obtain ⟨wa, rfl⟩ : ∃ wa : World, wa = wc := ⟨_, rfl⟩
  have HT := Lib.hid ht
  have hlta := ht.lt
  have kAt : wa.cell? ⟨w.heap.size, 100, none⟩ = some (.int .i64 (p : Int)) := (ht.cell 100).trans (by rw [ht.is.at_, ah.at_])
  have kW : wa.cell? ⟨w.heap.size, p, none⟩ = some (.int .i64 W0) := (ht.cell p).trans (by rw [ht.is.words p hp100, ah.wp])
  have kX : wa.cell? ⟨w.heap.size, 103, none⟩ = some (.int .i64 s.x) := (ht.cell 103).trans ht.is.x
  have kM : wa.cell? ⟨w.heap.size, a, none⟩ = some (.int .i64 m) := (ht.cell a).trans (by rw [ht.is.words a halt, ah.mv])
  have kA : wa.cell? ⟨w.heap.size, 101, none⟩ = some (.int .i64 s.a) := (ht.cell 101).trans ht.is.a
  have zAt := ht.frozen 100
  have hpne : ((p : Int) == 100) = false := by simp; omega
  clear ht
  go_upto_region 5 with (fail)
  go_cut [4] (fun s4 wx => s4 = .int .i64 1 ∧ wa = wx)
  case first =>
      go_wp2_with fail
      go_meet
      exact ⟨by rw [HOPQ.out], rfl⟩
  obtain ⟨rfl, rfl⟩ := hcut
  go_upto_region 9 with (go_at_call 22; refine (In_c _ _ _ _).mono ?_; rintro e w' ⟨rfl, rfl⟩; rw [hin1])
  go_upto_if 40 with (fail)
  go_cut [5] (fun s5 wx => s5 = .int .i64 (a : Int) ∧ wa = wx)
  case first =>
      by_cases hi : 10000 ≤ W0
      · have e1 : W0 % 100 + s.x = (a : Int) := HAH.out.adhi hi
        go_wp2_with fail
        go_meet
        exact ⟨by first | rfl | rw [e1], rfl⟩
      · have e1 : W0 % 100 = (a : Int) := HAH.out.adlo (by omega)
        go_wp2_with fail
        go_meet
        exact ⟨by first | rfl | rw [e1], rfl⟩
  obtain ⟨rfl, rfl⟩ := hcut
  generalize hgs : strOfNums (Acc.signed s.a) = SG at *
  have HGS := Lib.hid hgs
  clear hgs
  go_upto_region 26 with (first | (go_at_call 22; refine (In_c _ _ _ _).mono ?_; rintro e w' ⟨rfl, rfl⟩; rw [hin2]) | (go_at_call 72; refine (HSG.out _).mono ?_; rintro e w1 ⟨rfl, hx1⟩; have HT1 := Lib.hid (HT.out.ext hx1); have hlt1 := HT1.out.lt; have kAt1 := (HT1.out.cell 100).trans (HT1.out.is.at_.trans (by rw [HAH.out.at_])); have zAt1 := HT1.out.frozen 100; have kO1 := HT1.out.cell 106; clear hx1 kAt kW kX kM kA zAt))
  refine wp_world (fun wx => Sp bad w wx { s with at_ := (p : Int) + 1 } (cs.setIfInBounds 100 (.int .i64 ((p : Int) + 1)))) (HT1.out.set (fun F h => at_set h (n := (p : Int) + 1) ⟨by omega, by omega⟩)) ?_
  intro w2 hp2
  have hlt2 := hp2.lt
  have k1012 : w2.cell? ⟨w.heap.size, 101, none⟩ = some (.int .i64 s.a) := (hp2.cell 101).trans hp2.is.a
  have z1012 := hp2.frozen 101
  have HP2 := Lib.hid hp2
  clear hp2 kAt1 zAt1 kO1
  go_upto_region 86 with ((go_at_call 42; refine (five_c _ _).mono ?_; rintro e w' ⟨rfl, rfl⟩; rw [show five 0 = true from rfl]))
  refine wp_world (fun wx => Sp bad w wx { { s with at_ := (p : Int) + 1 } with a := m } ((cs.setIfInBounds 100 (.int .i64 ((p : Int) + 1))).setIfInBounds 101 (.int .i64 m))) (HP2.out.set (fun F h => a_set h (n := m) ⟨by omega, by omega⟩)) ?_
  intro wf hm
  have HEQ : Hid ({ { s with at_ := (p : Int) + 1 } with a := m } = r) := Lib.hid (by
      rw [← HR.out, eff1_eq, HWM.out])
  have HB1 := Lib.hid hm.b1
  have HB2 := Lib.hid hm.b2
  have HSB := Lib.hid hm.is.size
  have HO := Lib.hid (dk_one hm.is)
  have hltf := hm.lt
  have HFIN := Lib.hid hm.fin
  rw [HEQ.out] at HFIN
  clear hm
  obtain ⟨cz, hcz⟩ : ∃ cz, cz = ((cs.setIfInBounds 100 (.int .i64 ((p : Int) + 1))).setIfInBounds 101 (.int .i64 m)) := ⟨_, rfl⟩
  rw [← hcz] at HB1 HSB HO HFIN
  clear hcz
  go_wp2_with (first | refine wpList_load_row rfl 25 _ rfl w.heap.size rfl 25 cz (0, 0) _ HB1.out Tryd.underlying25 rfl (by rw [HSB.out]; exact sizeS) ?_ | refine wpList_store_row rfl 25 _ _ rfl (w.heap.size + 1) cz rfl rfl 25 zeroDk HB2.out (by rw [HSB.out]; exact sizeS) (by rw [HSB.out]; rfl) HO.out ?_)
  refine bodyPost_ret (results_one rfl _ _ (w.heap.size + 1) 25 cz (0, 0) _ rfl ?_ Tryd.underlying25 rfl (by rw [HSB.out]; exact sizeS)) rfl HFIN.out
  exact setRow_heap _ _ _ _ _ _ HB2.out
end Go.Proofs.YtbaahbpianingaaDoor
namespace Go.Proofs.YtbaahbpianingaaDoor
open Go Go.Proofs Go.RowKit
open Acc (Dk red five)
set_option maxHeartbeats 12800000
set_option maxRecDepth 100000
theorem dstep_2 (bad : Nat → Prop) (cs : Array Value) (s : Dk) (w : World) (hbad : ∀ g, bad g → g < w.heap.size) (h : StAv bad w cs s) (hok : OkSt s) (hz : Acc.stopF s = 0) (hop : Acc.opF s = 2) : Calls Tryd.prog 46 #[.agg cs] w (SpRet bad w (Acc.stepF s)) := by
  obtain ⟨p, W0, a, m, ah⟩ := ahead hok hz
  rw [stepF_go hz, hop, ah.ad, ah.at_]
  rw [hop] at ah
  obtain ⟨r, hr⟩ : ∃ r, Acc.effF { s with at_ := (p : Int) + 1 } 2 (a : Int) = r := ⟨_, rfl⟩
  rw [hr]
  have HR := Lib.hid hr
  have HBAD := Lib.hid hbad
  have HOK := Lib.hid hok
  have HAH := Lib.hid ah
  have HH := Lib.hid h
  have hp100 := ah.p100
  have hw0 := ah.w0
  have hw1 := ah.w1
  have halt := ah.alt
  have fA := Acc.five_iff.1 hok.ok.a
  have fQ := Acc.five_iff.1 hok.ok.q
  have fX := Acc.five_iff.1 hok.ok.x
  have fM := Acc.five_iff.1 ah.m5
  have hin1 : inB W0 0 19999 = true := by unfold inB; simp; omega
  have hin2 : inB (a : Int) 0 99 = true := by unfold inB; simp; omega
  have HOPQ := Lib.hid ah.op
  have HSG := Lib.hid (fun W => Signed_c s.a W hok.ok.a)
  have hsg : (strOfNums (Acc.signed s.a)).size ≤ 6 := by rw [strOfNums_size]; exact signed_len hok.ok.a
  have hwm : Acc.wordAt { s with at_ := (p : Int) + 1 } (a : Int) = m := by show s.words[((a : Nat) : Int).toNat]?.getD 0 = m; rw [Int.toNat_natCast]; exact ah.mv
  have HWM := Lib.hid hwm
  clear hwm
  clear hr hz hop hbad h
  go_enter Tryd.func46, Tryd.ntmps46
  go_upto_region 0 with (fail)
  go_cut [1, 2] (fun s1 s2 wx => s1 = .pointer (some ⟨w.heap.size, 0, none⟩) ∧ s2 = .pointer (some ⟨w.heap.size + 1, 0, none⟩) ∧ Sp bad w wx s cs)
  case first =>
      go_wp2_with (refine wpList_allocS rfl rfl ?_)
      go_meet
      exact ⟨rfl, by simp, Sp.mk0 HH.out⟩
  obtain ⟨rfl, rfl, ht⟩ := hcut
  obtain ⟨wa, rfl⟩ : ∃ wa : World, wa = wc := ⟨_, rfl⟩
  have HT := Lib.hid ht
  have hlta := ht.lt
  have kAt : wa.cell? ⟨w.heap.size, 100, none⟩ = some (.int .i64 (p : Int)) := (ht.cell 100).trans (by rw [ht.is.at_, ah.at_])
  have kW : wa.cell? ⟨w.heap.size, p, none⟩ = some (.int .i64 W0) := (ht.cell p).trans (by rw [ht.is.words p hp100, ah.wp])
  have kX : wa.cell? ⟨w.heap.size, 103, none⟩ = some (.int .i64 s.x) := (ht.cell 103).trans ht.is.x
  have kM : wa.cell? ⟨w.heap.size, a, none⟩ = some (.int .i64 m) := (ht.cell a).trans (by rw [ht.is.words a halt, ah.mv])
  have kA : wa.cell? ⟨w.heap.size, 101, none⟩ = some (.int .i64 s.a) := (ht.cell 101).trans ht.is.a
  have zAt := ht.frozen 100
  have hpne : ((p : Int) == 100) = false := by simp; omega
  clear ht
  go_upto_region 5 with (fail)
  go_cut [4] (fun s4 wx => s4 = .int .i64 2 ∧ wa = wx)
  case first =>
      go_wp2_with fail
      go_meet
      exact ⟨by rw [HOPQ.out], rfl⟩
  obtain ⟨rfl, rfl⟩ := hcut
  go_upto_region 9 with (go_at_call 22; refine (In_c _ _ _ _).mono ?_; rintro e w' ⟨rfl, rfl⟩; rw [hin1])
  go_upto_if 40 with (fail)
  go_cut [5] (fun s5 wx => s5 = .int .i64 (a : Int) ∧ wa = wx)
  case first =>
      by_cases hi : 10000 ≤ W0
      · have e1 : W0 % 100 + s.x = (a : Int) := HAH.out.adhi hi
        go_wp2_with fail
        go_meet
        exact ⟨by first | rfl | rw [e1], rfl⟩
      · have e1 : W0 % 100 = (a : Int) := HAH.out.adlo (by omega)
        go_wp2_with fail
        go_meet
        exact ⟨by first | rfl | rw [e1], rfl⟩
  obtain ⟨rfl, rfl⟩ := hcut
  generalize hgs : strOfNums (Acc.signed s.a) = SG at *
  have HGS := Lib.hid hgs
  clear hgs
  go_upto_region 26 with (first | (go_at_call 22; refine (In_c _ _ _ _).mono ?_; rintro e w' ⟨rfl, rfl⟩; rw [hin2]) | (go_at_call 72; refine (HSG.out _).mono ?_; rintro e w1 ⟨rfl, hx1⟩; have HT1 := Lib.hid (HT.out.ext hx1); have hlt1 := HT1.out.lt; have kAt1 := (HT1.out.cell 100).trans (HT1.out.is.at_.trans (by rw [HAH.out.at_])); have zAt1 := HT1.out.frozen 100; have kO1 := HT1.out.cell 106; clear hx1 kAt kW kX kM kA zAt))
  refine wp_world (fun wx => Sp bad w wx { s with at_ := (p : Int) + 1 } (cs.setIfInBounds 100 (.int .i64 ((p : Int) + 1)))) (HT1.out.set (fun F h => at_set h (n := (p : Int) + 1) ⟨by omega, by omega⟩)) ?_
  intro w2 hp2
  have hlt2 := hp2.lt
  have k1012 : w2.cell? ⟨w.heap.size, 101, none⟩ = some (.int .i64 s.a) := (hp2.cell 101).trans hp2.is.a
  have z1012 := hp2.frozen 101
  have km2 : w2.cell? ⟨w.heap.size, a, none⟩ = some (.int .i64 m) := (hp2.cell a).trans (by rw [hp2.is.words a halt]; show some (Value.int .i64 (s.words[a]?.getD 0)) = _; rw [HAH.out.mv])
  have zm2 := hp2.frozen a
  have HP2 := Lib.hid hp2
  clear hp2 kAt1 zAt1 kO1
  go_upto_region 86 with ((go_at_call 42; refine (five_c _ _).mono ?_; rintro e w' ⟨rfl, rfl⟩; rw [show five 0 = true from rfl]))
  refine wp_world (fun wx => Sp bad w wx { { s with at_ := (p : Int) + 1 } with words := s.words.set a s.a } ((cs.setIfInBounds 100 (.int .i64 ((p : Int) + 1))).setIfInBounds a (.int .i64 s.a))) (HP2.out.set (fun F h => word_set h halt (n := s.a) ⟨by omega, by omega⟩)) ?_
  intro wf hm
  have HEQ : Hid ({ { s with at_ := (p : Int) + 1 } with words := s.words.set a s.a } = r) := Lib.hid (by
      rw [← HR.out, eff2_eq, Int.toNat_natCast])
  have HB1 := Lib.hid hm.b1
  have HB2 := Lib.hid hm.b2
  have HSB := Lib.hid hm.is.size
  have HO := Lib.hid (dk_one hm.is)
  have hltf := hm.lt
  have HFIN := Lib.hid hm.fin
  rw [HEQ.out] at HFIN
  clear hm
  obtain ⟨cz, hcz⟩ : ∃ cz, cz = ((cs.setIfInBounds 100 (.int .i64 ((p : Int) + 1))).setIfInBounds a (.int .i64 s.a)) := ⟨_, rfl⟩
  rw [← hcz] at HB1 HSB HO HFIN
  clear hcz
  go_wp2_with (first | refine wpList_load_row rfl 25 _ rfl w.heap.size rfl 25 cz (0, 0) _ HB1.out Tryd.underlying25 rfl (by rw [HSB.out]; exact sizeS) ?_ | refine wpList_store_row rfl 25 _ _ rfl (w.heap.size + 1) cz rfl rfl 25 zeroDk HB2.out (by rw [HSB.out]; exact sizeS) (by rw [HSB.out]; rfl) HO.out ?_)
  refine bodyPost_ret (results_one rfl _ _ (w.heap.size + 1) 25 cz (0, 0) _ rfl ?_ Tryd.underlying25 rfl (by rw [HSB.out]; exact sizeS)) rfl HFIN.out
  exact setRow_heap _ _ _ _ _ _ HB2.out
end Go.Proofs.YtbaahbpianingaaDoor
namespace Go.Proofs.YtbaahbpianingaaDoor
open Go Go.Proofs Go.RowKit
open Acc (Dk red five)
set_option maxHeartbeats 12800000
set_option maxRecDepth 100000
theorem dstep_5 (bad : Nat → Prop) (cs : Array Value) (s : Dk) (w : World) (hbad : ∀ g, bad g → g < w.heap.size) (h : StAv bad w cs s) (hok : OkSt s) (hz : Acc.stopF s = 0) (hop : Acc.opF s = 5) : Calls Tryd.prog 46 #[.agg cs] w (SpRet bad w (Acc.stepF s)) := by
  obtain ⟨p, W0, a, m, ah⟩ := ahead hok hz
  rw [stepF_go hz, hop, ah.ad, ah.at_]
  rw [hop] at ah
  obtain ⟨r, hr⟩ : ∃ r, Acc.effF { s with at_ := (p : Int) + 1 } 5 (a : Int) = r := ⟨_, rfl⟩
  rw [hr]
  have HR := Lib.hid hr
  have HBAD := Lib.hid hbad
  have HOK := Lib.hid hok
  have HAH := Lib.hid ah
  have HH := Lib.hid h
  have hp100 := ah.p100
  have hw0 := ah.w0
  have hw1 := ah.w1
  have halt := ah.alt
  have fA := Acc.five_iff.1 hok.ok.a
  have fQ := Acc.five_iff.1 hok.ok.q
  have fX := Acc.five_iff.1 hok.ok.x
  have fM := Acc.five_iff.1 ah.m5
  have hin1 : inB W0 0 19999 = true := by unfold inB; simp; omega
  have hin2 : inB (a : Int) 0 99 = true := by unfold inB; simp; omega
  have HOPQ := Lib.hid ah.op
  have HSG := Lib.hid (fun W => Signed_c s.a W hok.ok.a)
  have hsg : (strOfNums (Acc.signed s.a)).size ≤ 6 := by rw [strOfNums_size]; exact signed_len hok.ok.a
  have hwm : Acc.wordAt { s with at_ := (p : Int) + 1 } (a : Int) = m := by show s.words[((a : Nat) : Int).toNat]?.getD 0 = m; rw [Int.toNat_natCast]; exact ah.mv
  have HWM := Lib.hid hwm
  clear hwm
  clear hr hz hop hbad h
  have hmi := mul_in hok.ok.a ah.m5
  have hmw : IntKind.i64.wrap (s.a * m) = s.a * m := wrap_in hmi
  go_enter Tryd.func46, Tryd.ntmps46
  go_upto_region 0 with (fail)
  go_cut [1, 2] (fun s1 s2 wx => s1 = .pointer (some ⟨w.heap.size, 0, none⟩) ∧ s2 = .pointer (some ⟨w.heap.size + 1, 0, none⟩) ∧ Sp bad w wx s cs)
  case first =>
      go_wp2_with (refine wpList_allocS rfl rfl ?_)
      go_meet
      exact ⟨rfl, by simp, Sp.mk0 HH.out⟩
  obtain ⟨rfl, rfl, ht⟩ := hcut
  obtain ⟨wa, rfl⟩ : ∃ wa : World, wa = wc := ⟨_, rfl⟩
  have HT := Lib.hid ht
  have hlta := ht.lt
  have kAt : wa.cell? ⟨w.heap.size, 100, none⟩ = some (.int .i64 (p : Int)) := (ht.cell 100).trans (by rw [ht.is.at_, ah.at_])
  have kW : wa.cell? ⟨w.heap.size, p, none⟩ = some (.int .i64 W0) := (ht.cell p).trans (by rw [ht.is.words p hp100, ah.wp])
  have kX : wa.cell? ⟨w.heap.size, 103, none⟩ = some (.int .i64 s.x) := (ht.cell 103).trans ht.is.x
  have kM : wa.cell? ⟨w.heap.size, a, none⟩ = some (.int .i64 m) := (ht.cell a).trans (by rw [ht.is.words a halt, ah.mv])
  have kA : wa.cell? ⟨w.heap.size, 101, none⟩ = some (.int .i64 s.a) := (ht.cell 101).trans ht.is.a
  have zAt := ht.frozen 100
  have hpne : ((p : Int) == 100) = false := by simp; omega
  clear ht
  go_upto_region 5 with (fail)
  go_cut [4] (fun s4 wx => s4 = .int .i64 5 ∧ wa = wx)
  case first =>
      go_wp2_with fail
      go_meet
      exact ⟨by rw [HOPQ.out], rfl⟩
  obtain ⟨rfl, rfl⟩ := hcut
  go_upto_region 9 with (go_at_call 22; refine (In_c _ _ _ _).mono ?_; rintro e w' ⟨rfl, rfl⟩; rw [hin1])
  go_upto_if 40 with (fail)
  go_cut [5] (fun s5 wx => s5 = .int .i64 (a : Int) ∧ wa = wx)
  case first =>
      by_cases hi : 10000 ≤ W0
      · have e1 : W0 % 100 + s.x = (a : Int) := HAH.out.adhi hi
        go_wp2_with fail
        go_meet
        exact ⟨by first | rfl | rw [e1], rfl⟩
      · have e1 : W0 % 100 = (a : Int) := HAH.out.adlo (by omega)
        go_wp2_with fail
        go_meet
        exact ⟨by first | rfl | rw [e1], rfl⟩
  obtain ⟨rfl, rfl⟩ := hcut
  generalize hgs : strOfNums (Acc.signed s.a) = SG at *
  have HGS := Lib.hid hgs
  clear hgs
  go_upto_region 26 with (first | (go_at_call 22; refine (In_c _ _ _ _).mono ?_; rintro e w' ⟨rfl, rfl⟩; rw [hin2]) | (go_at_call 72; refine (HSG.out _).mono ?_; rintro e w1 ⟨rfl, hx1⟩; have HT1 := Lib.hid (HT.out.ext hx1); have hlt1 := HT1.out.lt; have kAt1 := (HT1.out.cell 100).trans (HT1.out.is.at_.trans (by rw [HAH.out.at_])); have zAt1 := HT1.out.frozen 100; have kO1 := HT1.out.cell 106; clear hx1 kAt kW kX kM kA zAt))
  refine wp_world (fun wx => Sp bad w wx { s with at_ := (p : Int) + 1 } (cs.setIfInBounds 100 (.int .i64 ((p : Int) + 1)))) (HT1.out.set (fun F h => at_set h (n := (p : Int) + 1) ⟨by omega, by omega⟩)) ?_
  intro w2 hp2
  have hlt2 := hp2.lt
  have k1012 : w2.cell? ⟨w.heap.size, 101, none⟩ = some (.int .i64 s.a) := (hp2.cell 101).trans hp2.is.a
  have z1012 := hp2.frozen 101
  have k1022 : w2.cell? ⟨w.heap.size, 102, none⟩ = some (.int .i64 s.q) := (hp2.cell 102).trans hp2.is.q
  have z1022 := hp2.frozen 102
  have HP2 := Lib.hid hp2
  clear hp2 kAt1 zAt1 kO1
  have hrd := Acc.five_iff.1 (Acc.red_five (s.a * m))
  go_upto_region 86 with (first | (go_at_call 73; refine (reduced_c _ _ hmi).mono ?_; rintro e w' ⟨rfl, rfl⟩) | (go_at_call 74; refine (divided_c _ _ _ hmi ⟨by omega, by omega⟩ (by decide)).mono ?_; rintro e w' ⟨rfl, rfl⟩) | (go_at_call 42; refine (five_c _ _).mono ?_; rintro e w' ⟨rfl, rfl⟩; rw [show five 0 = true from rfl]))
  refine wp_world (fun wx => Sp bad w wx { { { s with at_ := (p : Int) + 1 } with a := red (s.a * m) } with q := (s.a * m).tdiv 100000 } (((cs.setIfInBounds 100 (.int .i64 ((p : Int) + 1))).setIfInBounds 101 (.int .i64 (red (s.a * m)))).setIfInBounds 102 (.int .i64 ((s.a * m).tdiv 100000)))) ((HP2.out.set (fun F h => a_set h (n := red (s.a * m)) (five_i64 (Acc.red_five _)))).set (fun F h => q_set h (n := (s.a * m).tdiv 100000) (i64_in (div_in hmi)))) ?_
  intro wf hm
  have HEQ : Hid ({ { { s with at_ := (p : Int) + 1 } with a := red (s.a * m) } with q := (s.a * m).tdiv 100000 } = r) := Lib.hid (by
      rw [← HR.out, eff5_eq, HWM.out])
  have HB1 := Lib.hid hm.b1
  have HB2 := Lib.hid hm.b2
  have HSB := Lib.hid hm.is.size
  have HO := Lib.hid (dk_one hm.is)
  have hltf := hm.lt
  have HFIN := Lib.hid hm.fin
  rw [HEQ.out] at HFIN
  clear hm
  obtain ⟨cz, hcz⟩ : ∃ cz, cz = (((cs.setIfInBounds 100 (.int .i64 ((p : Int) + 1))).setIfInBounds 101 (.int .i64 (red (s.a * m)))).setIfInBounds 102 (.int .i64 ((s.a * m).tdiv 100000))) := ⟨_, rfl⟩
  rw [← hcz] at HB1 HSB HO HFIN
  clear hcz
  go_wp2_with (first | refine wpList_load_row rfl 25 _ rfl w.heap.size rfl 25 cz (0, 0) _ HB1.out Tryd.underlying25 rfl (by rw [HSB.out]; exact sizeS) ?_ | refine wpList_store_row rfl 25 _ _ rfl (w.heap.size + 1) cz rfl rfl 25 zeroDk HB2.out (by rw [HSB.out]; exact sizeS) (by rw [HSB.out]; rfl) HO.out ?_)
  refine bodyPost_ret (results_one rfl _ _ (w.heap.size + 1) 25 cz (0, 0) _ rfl ?_ Tryd.underlying25 rfl (by rw [HSB.out]; exact sizeS)) rfl HFIN.out
  exact setRow_heap _ _ _ _ _ _ HB2.out
end Go.Proofs.YtbaahbpianingaaDoor
namespace Go.Proofs.YtbaahbpianingaaDoor
open Go Go.Proofs Go.RowKit
open Acc (Dk red five)
set_option maxHeartbeats 12800000
set_option maxRecDepth 100000
theorem dstep_6 (bad : Nat → Prop) (cs : Array Value) (s : Dk) (w : World) (hbad : ∀ g, bad g → g < w.heap.size) (h : StAv bad w cs s) (hok : OkSt s) (hz : Acc.stopF s = 0) (hop : Acc.opF s = 6) : Calls Tryd.prog 46 #[.agg cs] w (SpRet bad w (Acc.stepF s)) := by
  obtain ⟨p, W0, a, m, ah⟩ := ahead hok hz
  rw [stepF_go hz, hop, ah.ad, ah.at_]
  rw [hop] at ah
  obtain ⟨r, hr⟩ : ∃ r, Acc.effF { s with at_ := (p : Int) + 1 } 6 (a : Int) = r := ⟨_, rfl⟩
  rw [hr]
  have HR := Lib.hid hr
  have HBAD := Lib.hid hbad
  have HOK := Lib.hid hok
  have HAH := Lib.hid ah
  have HH := Lib.hid h
  have hp100 := ah.p100
  have hw0 := ah.w0
  have hw1 := ah.w1
  have halt := ah.alt
  have fA := Acc.five_iff.1 hok.ok.a
  have fQ := Acc.five_iff.1 hok.ok.q
  have fX := Acc.five_iff.1 hok.ok.x
  have fM := Acc.five_iff.1 ah.m5
  have hin1 : inB W0 0 19999 = true := by unfold inB; simp; omega
  have hin2 : inB (a : Int) 0 99 = true := by unfold inB; simp; omega
  have HOPQ := Lib.hid ah.op
  have HSG := Lib.hid (fun W => Signed_c s.a W hok.ok.a)
  have hsg : (strOfNums (Acc.signed s.a)).size ≤ 6 := by rw [strOfNums_size]; exact signed_len hok.ok.a
  have hwm : Acc.wordAt { s with at_ := (p : Int) + 1 } (a : Int) = m := by show s.words[((a : Nat) : Int).toNat]?.getD 0 = m; rw [Int.toNat_natCast]; exact ah.mv
  have HWM := Lib.hid hwm
  clear hwm
  clear hr hz hop hbad h
  have hm0 := ah.d6 rfl
  have hmb : (m == 0) = false := by simpa using hm0
  have hri := rest_in (b := m) hok.ok.a
  obtain ⟨hr1, hr2, hr3⟩ := hri
  obtain ⟨T, hT⟩ : ∃ T, s.a.tdiv m = T := ⟨_, rfl⟩
  rw [hT] at hr1 hr2 hr3
  have HTT := Lib.hid hT
  have HRM := Lib.hid hr1
  have g2 := Acc.five_iff.1 hr2
  have g3 := Acc.five_iff.1 hr3
  have HR3 := Lib.hid hr3
  have HR2 := Lib.hid hr2
  have gw : IntKind.i64.wrap (T * m) = T * m := wrap_in (by omega)
  have gx : IntKind.i64.wrap (s.a - T * m) = s.a - T * m := wrap_in (by omega)
  clear hT hr1 hr2 hr3
  go_enter Tryd.func46, Tryd.ntmps46
  go_upto_region 0 with (fail)
  go_cut [1, 2] (fun s1 s2 wx => s1 = .pointer (some ⟨w.heap.size, 0, none⟩) ∧ s2 = .pointer (some ⟨w.heap.size + 1, 0, none⟩) ∧ Sp bad w wx s cs)
  case first =>
      go_wp2_with (refine wpList_allocS rfl rfl ?_)
      go_meet
      exact ⟨rfl, by simp, Sp.mk0 HH.out⟩
  obtain ⟨rfl, rfl, ht⟩ := hcut
  obtain ⟨wa, rfl⟩ : ∃ wa : World, wa = wc := ⟨_, rfl⟩
  have HT := Lib.hid ht
  have hlta := ht.lt
  have kAt : wa.cell? ⟨w.heap.size, 100, none⟩ = some (.int .i64 (p : Int)) := (ht.cell 100).trans (by rw [ht.is.at_, ah.at_])
  have kW : wa.cell? ⟨w.heap.size, p, none⟩ = some (.int .i64 W0) := (ht.cell p).trans (by rw [ht.is.words p hp100, ah.wp])
  have kX : wa.cell? ⟨w.heap.size, 103, none⟩ = some (.int .i64 s.x) := (ht.cell 103).trans ht.is.x
  have kM : wa.cell? ⟨w.heap.size, a, none⟩ = some (.int .i64 m) := (ht.cell a).trans (by rw [ht.is.words a halt, ah.mv])
  have kA : wa.cell? ⟨w.heap.size, 101, none⟩ = some (.int .i64 s.a) := (ht.cell 101).trans ht.is.a
  have zAt := ht.frozen 100
  have hpne : ((p : Int) == 100) = false := by simp; omega
  clear ht
  go_upto_region 5 with (fail)
  go_cut [4] (fun s4 wx => s4 = .int .i64 6 ∧ wa = wx)
  case first =>
      go_wp2_with fail
      go_meet
      exact ⟨by rw [HOPQ.out], rfl⟩
  obtain ⟨rfl, rfl⟩ := hcut
  go_upto_region 9 with (go_at_call 22; refine (In_c _ _ _ _).mono ?_; rintro e w' ⟨rfl, rfl⟩; rw [hin1])
  go_upto_if 40 with (fail)
  go_cut [5] (fun s5 wx => s5 = .int .i64 (a : Int) ∧ wa = wx)
  case first =>
      by_cases hi : 10000 ≤ W0
      · have e1 : W0 % 100 + s.x = (a : Int) := HAH.out.adhi hi
        go_wp2_with fail
        go_meet
        exact ⟨by first | rfl | rw [e1], rfl⟩
      · have e1 : W0 % 100 = (a : Int) := HAH.out.adlo (by omega)
        go_wp2_with fail
        go_meet
        exact ⟨by first | rfl | rw [e1], rfl⟩
  obtain ⟨rfl, rfl⟩ := hcut
  generalize hgs : strOfNums (Acc.signed s.a) = SG at *
  have HGS := Lib.hid hgs
  clear hgs
  go_upto_region 26 with (first | (go_at_call 22; refine (In_c _ _ _ _).mono ?_; rintro e w' ⟨rfl, rfl⟩; rw [hin2]) | (go_at_call 72; refine (HSG.out _).mono ?_; rintro e w1 ⟨rfl, hx1⟩; have HT1 := Lib.hid (HT.out.ext hx1); have hlt1 := HT1.out.lt; have kAt1 := (HT1.out.cell 100).trans (HT1.out.is.at_.trans (by rw [HAH.out.at_])); have zAt1 := HT1.out.frozen 100; have kO1 := HT1.out.cell 106; clear hx1 kAt kW kX kM kA zAt))
  refine wp_world (fun wx => Sp bad w wx { s with at_ := (p : Int) + 1 } (cs.setIfInBounds 100 (.int .i64 ((p : Int) + 1)))) (HT1.out.set (fun F h => at_set h (n := (p : Int) + 1) ⟨by omega, by omega⟩)) ?_
  intro w2 hp2
  have hlt2 := hp2.lt
  have k1012 : w2.cell? ⟨w.heap.size, 101, none⟩ = some (.int .i64 s.a) := (hp2.cell 101).trans hp2.is.a
  have z1012 := hp2.frozen 101
  have k1022 : w2.cell? ⟨w.heap.size, 102, none⟩ = some (.int .i64 s.q) := (hp2.cell 102).trans hp2.is.q
  have z1022 := hp2.frozen 102
  have HP2 := Lib.hid hp2
  clear hp2 kAt1 zAt1 kO1
  go_upto_region 86 with (first | (go_at_call 74; refine (divided_c _ _ _ ⟨by omega, by omega⟩ ⟨by omega, by omega⟩ hm0).mono ?_; rw [HTT.out]; rintro e w' ⟨rfl, rfl⟩) | (go_at_call 42; refine (five_c _ _).mono ?_; rintro e w' ⟨rfl, rfl⟩; rw [show five 0 = true from rfl]))
  refine wp_world (fun wx => Sp bad w wx { { { s with at_ := (p : Int) + 1 } with q := s.a - T * m } with a := T } (((cs.setIfInBounds 100 (.int .i64 ((p : Int) + 1))).setIfInBounds 102 (.int .i64 (s.a - T * m))).setIfInBounds 101 (.int .i64 T))) ((HP2.out.set (fun F h => q_set h (n := s.a - T * m) (five_i64 HR3.out))).set (fun F h => a_set h (n := T) (five_i64 HR2.out))) ?_
  intro wf hm
  have HEQ : Hid ({ { { s with at_ := (p : Int) + 1 } with q := s.a - T * m } with a := T } = r) := Lib.hid (by
      rw [← HR.out, eff6_eq, HWM.out]; show _ = ({ s with at_ := (p : Int) + 1, a := s.a.tdiv m, q := s.a.tmod m } : Dk); rw [HTT.out, HRM.out])
  have HB1 := Lib.hid hm.b1
  have HB2 := Lib.hid hm.b2
  have HSB := Lib.hid hm.is.size
  have HO := Lib.hid (dk_one hm.is)
  have hltf := hm.lt
  have HFIN := Lib.hid hm.fin
  rw [HEQ.out] at HFIN
  clear hm
  obtain ⟨cz, hcz⟩ : ∃ cz, cz = (((cs.setIfInBounds 100 (.int .i64 ((p : Int) + 1))).setIfInBounds 102 (.int .i64 (s.a - T * m))).setIfInBounds 101 (.int .i64 T)) := ⟨_, rfl⟩
  rw [← hcz] at HB1 HSB HO HFIN
  clear hcz
  go_wp2_with (first | refine wpList_load_row rfl 25 _ rfl w.heap.size rfl 25 cz (0, 0) _ HB1.out Tryd.underlying25 rfl (by rw [HSB.out]; exact sizeS) ?_ | refine wpList_store_row rfl 25 _ _ rfl (w.heap.size + 1) cz rfl rfl 25 zeroDk HB2.out (by rw [HSB.out]; exact sizeS) (by rw [HSB.out]; rfl) HO.out ?_)
  refine bodyPost_ret (results_one rfl _ _ (w.heap.size + 1) 25 cz (0, 0) _ rfl ?_ Tryd.underlying25 rfl (by rw [HSB.out]; exact sizeS)) rfl HFIN.out
  exact setRow_heap _ _ _ _ _ _ HB2.out
end Go.Proofs.YtbaahbpianingaaDoor
namespace Go.Proofs.YtbaahbpianingaaDoor
open Go Go.Proofs Go.RowKit
open Acc (Dk red five)
set_option maxHeartbeats 12800000
set_option maxRecDepth 100000
theorem dstep_7 (bad : Nat → Prop) (cs : Array Value) (s : Dk) (w : World) (hbad : ∀ g, bad g → g < w.heap.size) (h : StAv bad w cs s) (hok : OkSt s) (hz : Acc.stopF s = 0) (hop : Acc.opF s = 7) : Calls Tryd.prog 46 #[.agg cs] w (SpRet bad w (Acc.stepF s)) := by
  obtain ⟨p, W0, a, m, ah⟩ := ahead hok hz
  rw [stepF_go hz, hop, ah.ad, ah.at_]
  rw [hop] at ah
  obtain ⟨r, hr⟩ : ∃ r, Acc.effF { s with at_ := (p : Int) + 1 } 7 (a : Int) = r := ⟨_, rfl⟩
  rw [hr]
  have HR := Lib.hid hr
  have HBAD := Lib.hid hbad
  have HOK := Lib.hid hok
  have HAH := Lib.hid ah
  have HH := Lib.hid h
  have hp100 := ah.p100
  have hw0 := ah.w0
  have hw1 := ah.w1
  have halt := ah.alt
  have fA := Acc.five_iff.1 hok.ok.a
  have fQ := Acc.five_iff.1 hok.ok.q
  have fX := Acc.five_iff.1 hok.ok.x
  have fM := Acc.five_iff.1 ah.m5
  have hin1 : inB W0 0 19999 = true := by unfold inB; simp; omega
  have hin2 : inB (a : Int) 0 99 = true := by unfold inB; simp; omega
  have HOPQ := Lib.hid ah.op
  have HSG := Lib.hid (fun W => Signed_c s.a W hok.ok.a)
  have hsg : (strOfNums (Acc.signed s.a)).size ≤ 6 := by rw [strOfNums_size]; exact signed_len hok.ok.a
  have hwm : Acc.wordAt { s with at_ := (p : Int) + 1 } (a : Int) = m := by show s.words[((a : Nat) : Int).toNat]?.getD 0 = m; rw [Int.toNat_natCast]; exact ah.mv
  have HWM := Lib.hid hwm
  clear hwm
  clear hr hz hop hbad h
  go_enter Tryd.func46, Tryd.ntmps46
  go_upto_region 0 with (fail)
  go_cut [1, 2] (fun s1 s2 wx => s1 = .pointer (some ⟨w.heap.size, 0, none⟩) ∧ s2 = .pointer (some ⟨w.heap.size + 1, 0, none⟩) ∧ Sp bad w wx s cs)
  case first =>
      go_wp2_with (refine wpList_allocS rfl rfl ?_)
      go_meet
      exact ⟨rfl, by simp, Sp.mk0 HH.out⟩
  obtain ⟨rfl, rfl, ht⟩ := hcut
  obtain ⟨wa, rfl⟩ : ∃ wa : World, wa = wc := ⟨_, rfl⟩
  have HT := Lib.hid ht
  have hlta := ht.lt
  have kAt : wa.cell? ⟨w.heap.size, 100, none⟩ = some (.int .i64 (p : Int)) := (ht.cell 100).trans (by rw [ht.is.at_, ah.at_])
  have kW : wa.cell? ⟨w.heap.size, p, none⟩ = some (.int .i64 W0) := (ht.cell p).trans (by rw [ht.is.words p hp100, ah.wp])
  have kX : wa.cell? ⟨w.heap.size, 103, none⟩ = some (.int .i64 s.x) := (ht.cell 103).trans ht.is.x
  have kM : wa.cell? ⟨w.heap.size, a, none⟩ = some (.int .i64 m) := (ht.cell a).trans (by rw [ht.is.words a halt, ah.mv])
  have kA : wa.cell? ⟨w.heap.size, 101, none⟩ = some (.int .i64 s.a) := (ht.cell 101).trans ht.is.a
  have zAt := ht.frozen 100
  have hpne : ((p : Int) == 100) = false := by simp; omega
  clear ht
  go_upto_region 5 with (fail)
  go_cut [4] (fun s4 wx => s4 = .int .i64 7 ∧ wa = wx)
  case first =>
      go_wp2_with fail
      go_meet
      exact ⟨by rw [HOPQ.out], rfl⟩
  obtain ⟨rfl, rfl⟩ := hcut
  go_upto_region 9 with (go_at_call 22; refine (In_c _ _ _ _).mono ?_; rintro e w' ⟨rfl, rfl⟩; rw [hin1])
  go_upto_if 40 with (fail)
  go_cut [5] (fun s5 wx => s5 = .int .i64 (a : Int) ∧ wa = wx)
  case first =>
      by_cases hi : 10000 ≤ W0
      · have e1 : W0 % 100 + s.x = (a : Int) := HAH.out.adhi hi
        go_wp2_with fail
        go_meet
        exact ⟨by first | rfl | rw [e1], rfl⟩
      · have e1 : W0 % 100 = (a : Int) := HAH.out.adlo (by omega)
        go_wp2_with fail
        go_meet
        exact ⟨by first | rfl | rw [e1], rfl⟩
  obtain ⟨rfl, rfl⟩ := hcut
  generalize hgs : strOfNums (Acc.signed s.a) = SG at *
  have HGS := Lib.hid hgs
  clear hgs
  go_upto_region 26 with (first | (go_at_call 22; refine (In_c _ _ _ _).mono ?_; rintro e w' ⟨rfl, rfl⟩; rw [hin2]) | (go_at_call 72; refine (HSG.out _).mono ?_; rintro e w1 ⟨rfl, hx1⟩; have HT1 := Lib.hid (HT.out.ext hx1); have hlt1 := HT1.out.lt; have kAt1 := (HT1.out.cell 100).trans (HT1.out.is.at_.trans (by rw [HAH.out.at_])); have zAt1 := HT1.out.frozen 100; have kO1 := HT1.out.cell 106; clear hx1 kAt kW kX kM kA zAt))
  refine wp_world (fun wx => Sp bad w wx { s with at_ := (p : Int) + 1 } (cs.setIfInBounds 100 (.int .i64 ((p : Int) + 1)))) (HT1.out.set (fun F h => at_set h (n := (p : Int) + 1) ⟨by omega, by omega⟩)) ?_
  intro w2 hp2
  have hlt2 := hp2.lt
  have k1002 : w2.cell? ⟨w.heap.size, 100, none⟩ = some (.int .i64 ((p : Int) + 1)) := (hp2.cell 100).trans hp2.is.at_
  have z1002 := hp2.frozen 100
  have HP2 := Lib.hid hp2
  clear hp2 kAt1 zAt1 kO1
  go_upto_region 86 with ((go_at_call 42; refine (five_c _ _).mono ?_; rintro e w' ⟨rfl, rfl⟩; rw [show five 0 = true from rfl]))
  refine wp_world (fun wx => Sp bad w wx { { s with at_ := (p : Int) + 1 } with at_ := (a : Int) } ((cs.setIfInBounds 100 (.int .i64 ((p : Int) + 1))).setIfInBounds 100 (.int .i64 (a : Int)))) (HP2.out.set (fun F h => at_set h (n := (a : Int)) ⟨by omega, by omega⟩)) ?_
  intro wf hm
  have HEQ : Hid ({ { s with at_ := (p : Int) + 1 } with at_ := (a : Int) } = r) := Lib.hid (by
      rw [← HR.out, eff7_eq])
  have HB1 := Lib.hid hm.b1
  have HB2 := Lib.hid hm.b2
  have HSB := Lib.hid hm.is.size
  have HO := Lib.hid (dk_one hm.is)
  have hltf := hm.lt
  have HFIN := Lib.hid hm.fin
  rw [HEQ.out] at HFIN
  clear hm
  obtain ⟨cz, hcz⟩ : ∃ cz, cz = ((cs.setIfInBounds 100 (.int .i64 ((p : Int) + 1))).setIfInBounds 100 (.int .i64 (a : Int))) := ⟨_, rfl⟩
  rw [← hcz] at HB1 HSB HO HFIN
  clear hcz
  go_wp2_with (first | refine wpList_load_row rfl 25 _ rfl w.heap.size rfl 25 cz (0, 0) _ HB1.out Tryd.underlying25 rfl (by rw [HSB.out]; exact sizeS) ?_ | refine wpList_store_row rfl 25 _ _ rfl (w.heap.size + 1) cz rfl rfl 25 zeroDk HB2.out (by rw [HSB.out]; exact sizeS) (by rw [HSB.out]; rfl) HO.out ?_)
  refine bodyPost_ret (results_one rfl _ _ (w.heap.size + 1) 25 cz (0, 0) _ rfl ?_ Tryd.underlying25 rfl (by rw [HSB.out]; exact sizeS)) rfl HFIN.out
  exact setRow_heap _ _ _ _ _ _ HB2.out
end Go.Proofs.YtbaahbpianingaaDoor
namespace Go.Proofs.YtbaahbpianingaaDoor
open Go Go.Proofs Go.RowKit
open Acc (Dk red five)
set_option maxHeartbeats 12800000
set_option maxRecDepth 100000
theorem dstep_17 (bad : Nat → Prop) (cs : Array Value) (s : Dk) (w : World) (hbad : ∀ g, bad g → g < w.heap.size) (h : StAv bad w cs s) (hok : OkSt s) (hz : Acc.stopF s = 0) (hop : Acc.opF s = 17) : Calls Tryd.prog 46 #[.agg cs] w (SpRet bad w (Acc.stepF s)) := by
  obtain ⟨p, W0, a, m, ah⟩ := ahead hok hz
  rw [stepF_go hz, hop, ah.ad, ah.at_]
  rw [hop] at ah
  obtain ⟨r, hr⟩ : ∃ r, Acc.effF { s with at_ := (p : Int) + 1 } 17 (a : Int) = r := ⟨_, rfl⟩
  rw [hr]
  have HR := Lib.hid hr
  have HBAD := Lib.hid hbad
  have HOK := Lib.hid hok
  have HAH := Lib.hid ah
  have HH := Lib.hid h
  have hp100 := ah.p100
  have hw0 := ah.w0
  have hw1 := ah.w1
  have halt := ah.alt
  have fA := Acc.five_iff.1 hok.ok.a
  have fQ := Acc.five_iff.1 hok.ok.q
  have fX := Acc.five_iff.1 hok.ok.x
  have fM := Acc.five_iff.1 ah.m5
  have hin1 : inB W0 0 19999 = true := by unfold inB; simp; omega
  have hin2 : inB (a : Int) 0 99 = true := by unfold inB; simp; omega
  have HOPQ := Lib.hid ah.op
  have HSG := Lib.hid (fun W => Signed_c s.a W hok.ok.a)
  have hsg : (strOfNums (Acc.signed s.a)).size ≤ 6 := by rw [strOfNums_size]; exact signed_len hok.ok.a
  have hwm : Acc.wordAt { s with at_ := (p : Int) + 1 } (a : Int) = m := by show s.words[((a : Nat) : Int).toNat]?.getD 0 = m; rw [Int.toNat_natCast]; exact ah.mv
  have HWM := Lib.hid hwm
  clear hwm
  clear hr hz hop hbad h
  go_enter Tryd.func46, Tryd.ntmps46
  go_upto_region 0 with (fail)
  go_cut [1, 2] (fun s1 s2 wx => s1 = .pointer (some ⟨w.heap.size, 0, none⟩) ∧ s2 = .pointer (some ⟨w.heap.size + 1, 0, none⟩) ∧ Sp bad w wx s cs)
  case first =>
      go_wp2_with (refine wpList_allocS rfl rfl ?_)
      go_meet
      exact ⟨rfl, by simp, Sp.mk0 HH.out⟩
  obtain ⟨rfl, rfl, ht⟩ := hcut
  obtain ⟨wa, rfl⟩ : ∃ wa : World, wa = wc := ⟨_, rfl⟩
  have HT := Lib.hid ht
  have hlta := ht.lt
  have kAt : wa.cell? ⟨w.heap.size, 100, none⟩ = some (.int .i64 (p : Int)) := (ht.cell 100).trans (by rw [ht.is.at_, ah.at_])
  have kW : wa.cell? ⟨w.heap.size, p, none⟩ = some (.int .i64 W0) := (ht.cell p).trans (by rw [ht.is.words p hp100, ah.wp])
  have kX : wa.cell? ⟨w.heap.size, 103, none⟩ = some (.int .i64 s.x) := (ht.cell 103).trans ht.is.x
  have kM : wa.cell? ⟨w.heap.size, a, none⟩ = some (.int .i64 m) := (ht.cell a).trans (by rw [ht.is.words a halt, ah.mv])
  have kA : wa.cell? ⟨w.heap.size, 101, none⟩ = some (.int .i64 s.a) := (ht.cell 101).trans ht.is.a
  have zAt := ht.frozen 100
  have hpne : ((p : Int) == 100) = false := by simp; omega
  clear ht
  go_upto_region 5 with (fail)
  go_cut [4] (fun s4 wx => s4 = .int .i64 17 ∧ wa = wx)
  case first =>
      go_wp2_with fail
      go_meet
      exact ⟨by rw [HOPQ.out], rfl⟩
  obtain ⟨rfl, rfl⟩ := hcut
  go_upto_region 9 with (go_at_call 22; refine (In_c _ _ _ _).mono ?_; rintro e w' ⟨rfl, rfl⟩; rw [hin1])
  go_upto_if 40 with (fail)
  go_cut [5] (fun s5 wx => s5 = .int .i64 (a : Int) ∧ wa = wx)
  case first =>
      by_cases hi : 10000 ≤ W0
      · have e1 : W0 % 100 + s.x = (a : Int) := HAH.out.adhi hi
        go_wp2_with fail
        go_meet
        exact ⟨by first | rfl | rw [e1], rfl⟩
      · have e1 : W0 % 100 = (a : Int) := HAH.out.adlo (by omega)
        go_wp2_with fail
        go_meet
        exact ⟨by first | rfl | rw [e1], rfl⟩
  obtain ⟨rfl, rfl⟩ := hcut
  generalize hgs : strOfNums (Acc.signed s.a) = SG at *
  have HGS := Lib.hid hgs
  clear hgs
  go_upto_region 26 with (first | (go_at_call 22; refine (In_c _ _ _ _).mono ?_; rintro e w' ⟨rfl, rfl⟩; rw [hin2]) | (go_at_call 72; refine (HSG.out _).mono ?_; rintro e w1 ⟨rfl, hx1⟩; have HT1 := Lib.hid (HT.out.ext hx1); have hlt1 := HT1.out.lt; have kAt1 := (HT1.out.cell 100).trans (HT1.out.is.at_.trans (by rw [HAH.out.at_])); have zAt1 := HT1.out.frozen 100; have kO1 := HT1.out.cell 106; clear hx1 kAt kW kX kM kA zAt))
  refine wp_world (fun wx => Sp bad w wx { s with at_ := (p : Int) + 1 } (cs.setIfInBounds 100 (.int .i64 ((p : Int) + 1)))) (HT1.out.set (fun F h => at_set h (n := (p : Int) + 1) ⟨by omega, by omega⟩)) ?_
  intro w2 hp2
  have hlt2 := hp2.lt
  have k1012 : w2.cell? ⟨w.heap.size, 101, none⟩ = some (.int .i64 s.a) := (hp2.cell 101).trans hp2.is.a
  have z1012 := hp2.frozen 101
  have k1022 : w2.cell? ⟨w.heap.size, 102, none⟩ = some (.int .i64 s.q) := (hp2.cell 102).trans hp2.is.q
  have z1022 := hp2.frozen 102
  have HP2 := Lib.hid hp2
  clear hp2 kAt1 zAt1 kO1
  go_upto_region 86 with ((go_at_call 42; refine (five_c _ _).mono ?_; rintro e w' ⟨rfl, rfl⟩; rw [show five 0 = true from rfl]))
  refine wp_world (fun wx => Sp bad w wx { { { s with at_ := (p : Int) + 1 } with q := s.a } with a := s.q } (((cs.setIfInBounds 100 (.int .i64 ((p : Int) + 1))).setIfInBounds 102 (.int .i64 s.a)).setIfInBounds 101 (.int .i64 s.q))) ((HP2.out.set (fun F h => q_set h (n := s.a) ⟨by omega, by omega⟩)).set (fun F h => a_set h (n := s.q) ⟨by omega, by omega⟩)) ?_
  intro wf hm
  have HEQ : Hid ({ { { s with at_ := (p : Int) + 1 } with q := s.a } with a := s.q } = r) := Lib.hid (by
      rw [← HR.out, eff17_eq])
  have HB1 := Lib.hid hm.b1
  have HB2 := Lib.hid hm.b2
  have HSB := Lib.hid hm.is.size
  have HO := Lib.hid (dk_one hm.is)
  have hltf := hm.lt
  have HFIN := Lib.hid hm.fin
  rw [HEQ.out] at HFIN
  clear hm
  obtain ⟨cz, hcz⟩ : ∃ cz, cz = (((cs.setIfInBounds 100 (.int .i64 ((p : Int) + 1))).setIfInBounds 102 (.int .i64 s.a)).setIfInBounds 101 (.int .i64 s.q)) := ⟨_, rfl⟩
  rw [← hcz] at HB1 HSB HO HFIN
  clear hcz
  go_wp2_with (first | refine wpList_load_row rfl 25 _ rfl w.heap.size rfl 25 cz (0, 0) _ HB1.out Tryd.underlying25 rfl (by rw [HSB.out]; exact sizeS) ?_ | refine wpList_store_row rfl 25 _ _ rfl (w.heap.size + 1) cz rfl rfl 25 zeroDk HB2.out (by rw [HSB.out]; exact sizeS) (by rw [HSB.out]; rfl) HO.out ?_)
  refine bodyPost_ret (results_one rfl _ _ (w.heap.size + 1) 25 cz (0, 0) _ rfl ?_ Tryd.underlying25 rfl (by rw [HSB.out]; exact sizeS)) rfl HFIN.out
  exact setRow_heap _ _ _ _ _ _ HB2.out
end Go.Proofs.YtbaahbpianingaaDoor
namespace Go.Proofs.YtbaahbpianingaaDoor
open Go Go.Proofs Go.RowKit
open Acc (Dk red five)
set_option maxHeartbeats 12800000
set_option maxRecDepth 100000
theorem dstep_11 (bad : Nat → Prop) (cs : Array Value) (s : Dk) (w : World) (hbad : ∀ g, bad g → g < w.heap.size) (h : StAv bad w cs s) (hok : OkSt s) (hz : Acc.stopF s = 0) (hop : Acc.opF s = 11) : Calls Tryd.prog 46 #[.agg cs] w (SpRet bad w (Acc.stepF s)) := by
  obtain ⟨p, W0, a, m, ah⟩ := ahead hok hz
  rw [stepF_go hz, hop, ah.ad, ah.at_]
  rw [hop] at ah
  obtain ⟨r, hr⟩ : ∃ r, Acc.effF { s with at_ := (p : Int) + 1 } 11 (a : Int) = r := ⟨_, rfl⟩
  rw [hr]
  have HR := Lib.hid hr
  have HBAD := Lib.hid hbad
  have HOK := Lib.hid hok
  have HAH := Lib.hid ah
  have HH := Lib.hid h
  have hp100 := ah.p100
  have hw0 := ah.w0
  have hw1 := ah.w1
  have halt := ah.alt
  have fA := Acc.five_iff.1 hok.ok.a
  have fQ := Acc.five_iff.1 hok.ok.q
  have fX := Acc.five_iff.1 hok.ok.x
  have fM := Acc.five_iff.1 ah.m5
  have hin1 : inB W0 0 19999 = true := by unfold inB; simp; omega
  have hin2 : inB (a : Int) 0 99 = true := by unfold inB; simp; omega
  have HOPQ := Lib.hid ah.op
  have HSG := Lib.hid (fun W => Signed_c s.a W hok.ok.a)
  have hsg : (strOfNums (Acc.signed s.a)).size ≤ 6 := by rw [strOfNums_size]; exact signed_len hok.ok.a
  have hwm : Acc.wordAt { s with at_ := (p : Int) + 1 } (a : Int) = m := by show s.words[((a : Nat) : Int).toNat]?.getD 0 = m; rw [Int.toNat_natCast]; exact ah.mv
  have HWM := Lib.hid hwm
  clear hwm
  clear hr hz hop hbad h
  go_enter Tryd.func46, Tryd.ntmps46
  go_upto_region 0 with (fail)
  go_cut [1, 2] (fun s1 s2 wx => s1 = .pointer (some ⟨w.heap.size, 0, none⟩) ∧ s2 = .pointer (some ⟨w.heap.size + 1, 0, none⟩) ∧ Sp bad w wx s cs)
  case first =>
      go_wp2_with (refine wpList_allocS rfl rfl ?_)
      go_meet
      exact ⟨rfl, by simp, Sp.mk0 HH.out⟩
  obtain ⟨rfl, rfl, ht⟩ := hcut
  obtain ⟨wa, rfl⟩ : ∃ wa : World, wa = wc := ⟨_, rfl⟩
  have HT := Lib.hid ht
  have hlta := ht.lt
  have kAt : wa.cell? ⟨w.heap.size, 100, none⟩ = some (.int .i64 (p : Int)) := (ht.cell 100).trans (by rw [ht.is.at_, ah.at_])
  have kW : wa.cell? ⟨w.heap.size, p, none⟩ = some (.int .i64 W0) := (ht.cell p).trans (by rw [ht.is.words p hp100, ah.wp])
  have kX : wa.cell? ⟨w.heap.size, 103, none⟩ = some (.int .i64 s.x) := (ht.cell 103).trans ht.is.x
  have kM : wa.cell? ⟨w.heap.size, a, none⟩ = some (.int .i64 m) := (ht.cell a).trans (by rw [ht.is.words a halt, ah.mv])
  have kA : wa.cell? ⟨w.heap.size, 101, none⟩ = some (.int .i64 s.a) := (ht.cell 101).trans ht.is.a
  have zAt := ht.frozen 100
  have hpne : ((p : Int) == 100) = false := by simp; omega
  clear ht
  go_upto_region 5 with (fail)
  go_cut [4] (fun s4 wx => s4 = .int .i64 11 ∧ wa = wx)
  case first =>
      go_wp2_with fail
      go_meet
      exact ⟨by rw [HOPQ.out], rfl⟩
  obtain ⟨rfl, rfl⟩ := hcut
  go_upto_region 9 with (go_at_call 22; refine (In_c _ _ _ _).mono ?_; rintro e w' ⟨rfl, rfl⟩; rw [hin1])
  go_upto_if 40 with (fail)
  go_cut [5] (fun s5 wx => s5 = .int .i64 (a : Int) ∧ wa = wx)
  case first =>
      by_cases hi : 10000 ≤ W0
      · have e1 : W0 % 100 + s.x = (a : Int) := HAH.out.adhi hi
        go_wp2_with fail
        go_meet
        exact ⟨by first | rfl | rw [e1], rfl⟩
      · have e1 : W0 % 100 = (a : Int) := HAH.out.adlo (by omega)
        go_wp2_with fail
        go_meet
        exact ⟨by first | rfl | rw [e1], rfl⟩
  obtain ⟨rfl, rfl⟩ := hcut
  generalize hgs : strOfNums (Acc.signed s.a) = SG at *
  have HGS := Lib.hid hgs
  clear hgs
  go_upto_region 26 with (first | (go_at_call 22; refine (In_c _ _ _ _).mono ?_; rintro e w' ⟨rfl, rfl⟩; rw [hin2]) | (go_at_call 72; refine (HSG.out _).mono ?_; rintro e w1 ⟨rfl, hx1⟩; have HT1 := Lib.hid (HT.out.ext hx1); have hlt1 := HT1.out.lt; have kAt1 := (HT1.out.cell 100).trans (HT1.out.is.at_.trans (by rw [HAH.out.at_])); have zAt1 := HT1.out.frozen 100; have kO1 := HT1.out.cell 106; clear hx1 kAt kW kX kM kA zAt))
  refine wp_world (fun wx => Sp bad w wx { s with at_ := (p : Int) + 1 } (cs.setIfInBounds 100 (.int .i64 ((p : Int) + 1)))) (HT1.out.set (fun F h => at_set h (n := (p : Int) + 1) ⟨by omega, by omega⟩)) ?_
  intro w2 hp2
  have hlt2 := hp2.lt
  have k1032 : w2.cell? ⟨w.heap.size, 103, none⟩ = some (.int .i64 s.x) := (hp2.cell 103).trans hp2.is.x
  have z1032 := hp2.frozen 103
  have HP2 := Lib.hid hp2
  clear hp2 kAt1 zAt1 kO1
  go_upto_region 86 with ((go_at_call 42; refine (five_c _ _).mono ?_; rintro e w' ⟨rfl, rfl⟩; rw [show five 0 = true from rfl]))
  refine wp_world (fun wx => Sp bad w wx { { s with at_ := (p : Int) + 1 } with x := m } ((cs.setIfInBounds 100 (.int .i64 ((p : Int) + 1))).setIfInBounds 103 (.int .i64 m))) (HP2.out.set (fun F h => x_set h (n := m) ⟨by omega, by omega⟩)) ?_
  intro wf hm
  have HEQ : Hid ({ { s with at_ := (p : Int) + 1 } with x := m } = r) := Lib.hid (by
      rw [← HR.out, eff11_eq, HWM.out])
  have HB1 := Lib.hid hm.b1
  have HB2 := Lib.hid hm.b2
  have HSB := Lib.hid hm.is.size
  have HO := Lib.hid (dk_one hm.is)
  have hltf := hm.lt
  have HFIN := Lib.hid hm.fin
  rw [HEQ.out] at HFIN
  clear hm
  obtain ⟨cz, hcz⟩ : ∃ cz, cz = ((cs.setIfInBounds 100 (.int .i64 ((p : Int) + 1))).setIfInBounds 103 (.int .i64 m)) := ⟨_, rfl⟩
  rw [← hcz] at HB1 HSB HO HFIN
  clear hcz
  go_wp2_with (first | refine wpList_load_row rfl 25 _ rfl w.heap.size rfl 25 cz (0, 0) _ HB1.out Tryd.underlying25 rfl (by rw [HSB.out]; exact sizeS) ?_ | refine wpList_store_row rfl 25 _ _ rfl (w.heap.size + 1) cz rfl rfl 25 zeroDk HB2.out (by rw [HSB.out]; exact sizeS) (by rw [HSB.out]; rfl) HO.out ?_)
  refine bodyPost_ret (results_one rfl _ _ (w.heap.size + 1) 25 cz (0, 0) _ rfl ?_ Tryd.underlying25 rfl (by rw [HSB.out]; exact sizeS)) rfl HFIN.out
  exact setRow_heap _ _ _ _ _ _ HB2.out
end Go.Proofs.YtbaahbpianingaaDoor
namespace Go.Proofs.YtbaahbpianingaaDoor
open Go Go.Proofs Go.RowKit
open Acc (Dk red five)
set_option maxHeartbeats 12800000
set_option maxRecDepth 100000
theorem dstop_at (bad : Nat → Prop) (cs : Array Value) (s : Dk) (w : World) (h : StAv bad w cs s) (hok : OkSt s) (h1 : s.at_ = 100) : Calls Tryd.prog 46 #[.agg cs] w (SpRet bad w { s with stop := 3 }) := by
  obtain ⟨r, hr⟩ : ∃ r, ({ s with stop := 3 } : Dk) = r := ⟨_, rfl⟩
  rw [hr]
  have HR := Lib.hid hr
  have HOK := Lib.hid hok
  have HH := Lib.hid h
  clear hr h
  go_enter Tryd.func46, Tryd.ntmps46
  go_upto_region 0 with (fail)
  go_cut [1, 2] (fun s1 s2 wx => s1 = .pointer (some ⟨w.heap.size, 0, none⟩) ∧ s2 = .pointer (some ⟨w.heap.size + 1, 0, none⟩) ∧ Sp bad w wx s cs)
  case first =>
      go_wp2_with (refine wpList_allocS rfl rfl ?_)
      go_meet
      exact ⟨rfl, by simp, Sp.mk0 HH.out⟩
  obtain ⟨rfl, rfl, ht⟩ := hcut
  obtain ⟨wa, rfl⟩ : ∃ wa : World, wa = wc := ⟨_, rfl⟩
  have HT := Lib.hid ht
  have hlta := ht.lt
  have kS : wa.cell? ⟨w.heap.size, 107, none⟩ = some (.int .i64 s.stop) := (ht.cell 107).trans ht.is.stop
  have zS := ht.frozen 107
  have kAt : wa.cell? ⟨w.heap.size, 100, none⟩ = some (.int .i64 100) := (ht.cell 100).trans (by rw [ht.is.at_, h1])
  clear ht h1
  go_upto_region 3 with (fail)
  refine wp_world (fun wx => Sp bad w wx { s with stop := 3 } (cs.setIfInBounds 107 (.int .i64 3))) (HT.out.set (fun F h => stop_set h (n := 3) ⟨by omega, by omega⟩)) ?_
  intro wf hm
  have HEQ : Hid ({ s with stop := 3 } = r) := Lib.hid (by
      rw [← HR.out])
  have HB1 := Lib.hid hm.b1
  have HB2 := Lib.hid hm.b2
  have HSB := Lib.hid hm.is.size
  have HO := Lib.hid (dk_one hm.is)
  have hltf := hm.lt
  have HFIN := Lib.hid hm.fin
  rw [HEQ.out] at HFIN
  clear hm
  obtain ⟨cz, hcz⟩ : ∃ cz, cz = (cs.setIfInBounds 107 (.int .i64 3)) := ⟨_, rfl⟩
  rw [← hcz] at HB1 HSB HO HFIN
  clear hcz
  go_wp2_with (first | refine wpList_load_row rfl 25 _ rfl w.heap.size rfl 25 cz (0, 0) _ HB1.out Tryd.underlying25 rfl (by rw [HSB.out]; exact sizeS) ?_ | refine wpList_store_row rfl 25 _ _ rfl (w.heap.size + 1) cz rfl rfl 25 zeroDk HB2.out (by rw [HSB.out]; exact sizeS) (by rw [HSB.out]; rfl) HO.out ?_)
  refine bodyPost_ret (results_one rfl _ _ (w.heap.size + 1) 25 cz (0, 0) _ rfl ?_ Tryd.underlying25 rfl (by rw [HSB.out]; exact sizeS)) rfl HFIN.out
  exact setRow_heap _ _ _ _ _ _ HB2.out
theorem dstop_word (bad : Nat → Prop) (cs : Array Value) (s : Dk) (w : World) (h : StAv bad w cs s) (hok : OkSt s) (h1 : ¬ s.at_ = 100) (h2 : Acc.wordAt s s.at_ < 0 ∨ 20000 ≤ Acc.wordAt s s.at_) : Calls Tryd.prog 46 #[.agg cs] w (SpRet bad w { s with stop := 2 }) := by
  obtain ⟨r, hr⟩ : ∃ r, ({ s with stop := 2 } : Dk) = r := ⟨_, rfl⟩
  rw [hr]
  have HR := Lib.hid hr
  have HOK := Lib.hid hok
  have HH := Lib.hid h
  clear hr h
  obtain ⟨p, ah⟩ := ahead3 hok h1
  obtain ⟨W0, hW⟩ : ∃ W0, Acc.wordAt s s.at_ = W0 := ⟨_, rfl⟩
  rw [hW] at ah h2
  have hp100 := ah.p100
  have fW := Acc.five_iff.1 ah.w5
  have hin1 : inB W0 0 19999 = false := by unfold inB; simp; omega
  have hin2 := hin1
  clear hW h1 h2
  go_enter Tryd.func46, Tryd.ntmps46
  go_upto_region 0 with (fail)
  go_cut [1, 2] (fun s1 s2 wx => s1 = .pointer (some ⟨w.heap.size, 0, none⟩) ∧ s2 = .pointer (some ⟨w.heap.size + 1, 0, none⟩) ∧ Sp bad w wx s cs)
  case first =>
      go_wp2_with (refine wpList_allocS rfl rfl ?_)
      go_meet
      exact ⟨rfl, by simp, Sp.mk0 HH.out⟩
  obtain ⟨rfl, rfl, ht⟩ := hcut
  obtain ⟨wa, rfl⟩ : ∃ wa : World, wa = wc := ⟨_, rfl⟩
  have HT := Lib.hid ht
  have hlta := ht.lt
  have kS : wa.cell? ⟨w.heap.size, 107, none⟩ = some (.int .i64 s.stop) := (ht.cell 107).trans ht.is.stop
  have zS := ht.frozen 107
  have kAt : wa.cell? ⟨w.heap.size, 100, none⟩ = some (.int .i64 (p : Int)) := (ht.cell 100).trans (by rw [ht.is.at_, ah.at_])
  have kW : wa.cell? ⟨w.heap.size, p, none⟩ = some (.int .i64 W0) := (ht.cell p).trans (by rw [ht.is.words p hp100, ah.wp])
  have kX : wa.cell? ⟨w.heap.size, 103, none⟩ = some (.int .i64 s.x) := (ht.cell 103).trans ht.is.x
  have hpne : ((p : Int) == 100) = false := by simp; omega
  have q1 : IntKind.i64.wrap (W0.tdiv 100) = W0.tdiv 100 := wrap_in (div_in ⟨by omega, by omega⟩)
  have q2 : IntKind.i64.wrap ((W0.tdiv 100).tmod 100) = (W0.tdiv 100).tmod 100 := wrap_in (mod_in (div_in ⟨by omega, by omega⟩))
  clear ht
  go_upto_region 8 with ((go_at_call 22; refine (In_c _ _ _ _).mono ?_; rintro e w' ⟨rfl, rfl⟩; first | rw [hin1] | rw [hin2]))
  refine wp_world (fun wx => Sp bad w wx { s with stop := 2 } (cs.setIfInBounds 107 (.int .i64 2))) (HT.out.set (fun F h => stop_set h (n := 2) ⟨by omega, by omega⟩)) ?_
  intro wf hm
  have HEQ : Hid ({ s with stop := 2 } = r) := Lib.hid (by
      rw [← HR.out])
  have HB1 := Lib.hid hm.b1
  have HB2 := Lib.hid hm.b2
  have HSB := Lib.hid hm.is.size
  have HO := Lib.hid (dk_one hm.is)
  have hltf := hm.lt
  have HFIN := Lib.hid hm.fin
  rw [HEQ.out] at HFIN
  clear hm
  obtain ⟨cz, hcz⟩ : ∃ cz, cz = (cs.setIfInBounds 107 (.int .i64 2)) := ⟨_, rfl⟩
  rw [← hcz] at HB1 HSB HO HFIN
  clear hcz
  go_wp2_with (first | refine wpList_load_row rfl 25 _ rfl w.heap.size rfl 25 cz (0, 0) _ HB1.out Tryd.underlying25 rfl (by rw [HSB.out]; exact sizeS) ?_ | refine wpList_store_row rfl 25 _ _ rfl (w.heap.size + 1) cz rfl rfl 25 zeroDk HB2.out (by rw [HSB.out]; exact sizeS) (by rw [HSB.out]; rfl) HO.out ?_)
  refine bodyPost_ret (results_one rfl _ _ (w.heap.size + 1) 25 cz (0, 0) _ rfl ?_ Tryd.underlying25 rfl (by rw [HSB.out]; exact sizeS)) rfl HFIN.out
  exact setRow_heap _ _ _ _ _ _ HB2.out
theorem dstop_op (bad : Nat → Prop) (cs : Array Value) (s : Dk) (w : World) (h : StAv bad w cs s) (hok : OkSt s) (h1 : ¬ s.at_ = 100) (h2 : 0 ≤ Acc.wordAt s s.at_ ∧ Acc.wordAt s s.at_ < 20000) (h3 : 18 ≤ Acc.opF s) : Calls Tryd.prog 46 #[.agg cs] w (SpRet bad w { s with stop := 2 }) := by
  obtain ⟨r, hr⟩ : ∃ r, ({ s with stop := 2 } : Dk) = r := ⟨_, rfl⟩
  rw [hr]
  have HR := Lib.hid hr
  have HOK := Lib.hid hok
  have HH := Lib.hid h
  clear hr h
  obtain ⟨p, ah⟩ := ahead3 hok h1
  obtain ⟨W0, hW⟩ : ∃ W0, Acc.wordAt s s.at_ = W0 := ⟨_, rfl⟩
  have hop : Acc.opF s = W0 / 100 % 100 := by unfold Acc.opF; rw [hW, Int.tdiv_eq_ediv_of_nonneg (by omega), Int.tmod_eq_emod_of_nonneg (by omega)]
  rw [hW] at ah h2
  rw [hop] at h3
  have hp100 := ah.p100
  have hw0 := h2.1
  have hw1 := h2.2
  have hin1 : inB W0 0 19999 = true := by unfold inB; simp; omega
  have hin2 := hin1
  clear hW h1 h2 hop
  go_enter Tryd.func46, Tryd.ntmps46
  go_upto_region 0 with (fail)
  go_cut [1, 2] (fun s1 s2 wx => s1 = .pointer (some ⟨w.heap.size, 0, none⟩) ∧ s2 = .pointer (some ⟨w.heap.size + 1, 0, none⟩) ∧ Sp bad w wx s cs)
  case first =>
      go_wp2_with (refine wpList_allocS rfl rfl ?_)
      go_meet
      exact ⟨rfl, by simp, Sp.mk0 HH.out⟩
  obtain ⟨rfl, rfl, ht⟩ := hcut
  obtain ⟨wa, rfl⟩ : ∃ wa : World, wa = wc := ⟨_, rfl⟩
  have HT := Lib.hid ht
  have hlta := ht.lt
  have kS : wa.cell? ⟨w.heap.size, 107, none⟩ = some (.int .i64 s.stop) := (ht.cell 107).trans ht.is.stop
  have zS := ht.frozen 107
  have kAt : wa.cell? ⟨w.heap.size, 100, none⟩ = some (.int .i64 (p : Int)) := (ht.cell 100).trans (by rw [ht.is.at_, ah.at_])
  have kW : wa.cell? ⟨w.heap.size, p, none⟩ = some (.int .i64 W0) := (ht.cell p).trans (by rw [ht.is.words p hp100, ah.wp])
  have kX : wa.cell? ⟨w.heap.size, 103, none⟩ = some (.int .i64 s.x) := (ht.cell 103).trans ht.is.x
  have hpne : ((p : Int) == 100) = false := by simp; omega
  clear ht
  go_upto_region 8 with ((go_at_call 22; refine (In_c _ _ _ _).mono ?_; rintro e w' ⟨rfl, rfl⟩; first | rw [hin1] | rw [hin2]))
  refine wp_world (fun wx => Sp bad w wx { s with stop := 2 } (cs.setIfInBounds 107 (.int .i64 2))) (HT.out.set (fun F h => stop_set h (n := 2) ⟨by omega, by omega⟩)) ?_
  intro wf hm
  have HEQ : Hid ({ s with stop := 2 } = r) := Lib.hid (by
      rw [← HR.out])
  have HB1 := Lib.hid hm.b1
  have HB2 := Lib.hid hm.b2
  have HSB := Lib.hid hm.is.size
  have HO := Lib.hid (dk_one hm.is)
  have hltf := hm.lt
  have HFIN := Lib.hid hm.fin
  rw [HEQ.out] at HFIN
  clear hm
  obtain ⟨cz, hcz⟩ : ∃ cz, cz = (cs.setIfInBounds 107 (.int .i64 2)) := ⟨_, rfl⟩
  rw [← hcz] at HB1 HSB HO HFIN
  clear hcz
  go_wp2_with (first | refine wpList_load_row rfl 25 _ rfl w.heap.size rfl 25 cz (0, 0) _ HB1.out Tryd.underlying25 rfl (by rw [HSB.out]; exact sizeS) ?_ | refine wpList_store_row rfl 25 _ _ rfl (w.heap.size + 1) cz rfl rfl 25 zeroDk HB2.out (by rw [HSB.out]; exact sizeS) (by rw [HSB.out]; rfl) HO.out ?_)
  refine bodyPost_ret (results_one rfl _ _ (w.heap.size + 1) 25 cz (0, 0) _ rfl ?_ Tryd.underlying25 rfl (by rw [HSB.out]; exact sizeS)) rfl HFIN.out
  exact setRow_heap _ _ _ _ _ _ HB2.out
theorem dstop_addr (bad : Nat → Prop) (cs : Array Value) (s : Dk) (w : World) (h : StAv bad w cs s) (hok : OkSt s) (h1 : ¬ s.at_ = 100) (h2 : 0 ≤ Acc.wordAt s s.at_ ∧ Acc.wordAt s s.at_ < 20000) (h3 : ¬ 18 ≤ Acc.opF s) (h4 : Acc.addrF s < 0 ∨ 100 ≤ Acc.addrF s) : Calls Tryd.prog 46 #[.agg cs] w (SpRet bad w { s with stop := 3 }) := by
  obtain ⟨r, hr⟩ : ∃ r, ({ s with stop := 3 } : Dk) = r := ⟨_, rfl⟩
  rw [hr]
  have HR := Lib.hid hr
  have HOK := Lib.hid hok
  have HH := Lib.hid h
  clear hr h
  obtain ⟨p, ah⟩ := ahead3 hok h1
  obtain ⟨W0, hW⟩ : ∃ W0, Acc.wordAt s s.at_ = W0 := ⟨_, rfl⟩
  have hop : Acc.opF s = W0 / 100 % 100 := by unfold Acc.opF; rw [hW, Int.tdiv_eq_ediv_of_nonneg (by omega), Int.tmod_eq_emod_of_nonneg (by omega)]
  have had : Acc.addrF s = W0 % 100 + (if 10000 ≤ W0 then s.x else 0) := by unfold Acc.addrF; rw [hW, Int.tmod_eq_emod_of_nonneg (by omega)]
  rw [hW] at ah h2
  rw [hop] at h3
  have hp100 := ah.p100
  have hw0 := h2.1
  have hw1 := h2.2
  have hin1 : inB W0 0 19999 = true := by unfold inB; simp; omega
  have fX := Acc.five_iff.1 hok.ok.x
  have hhi : 10000 ≤ W0 := by by_cases q : 10000 ≤ W0; exact q; rw [if_neg q] at had; omega
  rw [if_pos hhi] at had
  have hin2 : inB (W0 % 100 + s.x) 0 99 = false := by rw [← had]; unfold inB; simp; omega
  have hop17 : W0 / 100 % 100 ≤ 17 := by omega
  clear hW h1 h2 hop h3 h4 had
  go_enter Tryd.func46, Tryd.ntmps46
  go_upto_region 0 with (fail)
  go_cut [1, 2] (fun s1 s2 wx => s1 = .pointer (some ⟨w.heap.size, 0, none⟩) ∧ s2 = .pointer (some ⟨w.heap.size + 1, 0, none⟩) ∧ Sp bad w wx s cs)
  case first =>
      go_wp2_with (refine wpList_allocS rfl rfl ?_)
      go_meet
      exact ⟨rfl, by simp, Sp.mk0 HH.out⟩
  obtain ⟨rfl, rfl, ht⟩ := hcut
  obtain ⟨wa, rfl⟩ : ∃ wa : World, wa = wc := ⟨_, rfl⟩
  have HT := Lib.hid ht
  have hlta := ht.lt
  have kS : wa.cell? ⟨w.heap.size, 107, none⟩ = some (.int .i64 s.stop) := (ht.cell 107).trans ht.is.stop
  have zS := ht.frozen 107
  have kAt : wa.cell? ⟨w.heap.size, 100, none⟩ = some (.int .i64 (p : Int)) := (ht.cell 100).trans (by rw [ht.is.at_, ah.at_])
  have kW : wa.cell? ⟨w.heap.size, p, none⟩ = some (.int .i64 W0) := (ht.cell p).trans (by rw [ht.is.words p hp100, ah.wp])
  have kX : wa.cell? ⟨w.heap.size, 103, none⟩ = some (.int .i64 s.x) := (ht.cell 103).trans ht.is.x
  have hpne : ((p : Int) == 100) = false := by simp; omega
  clear ht
  go_upto_region 14 with ((go_at_call 22; refine (In_c _ _ _ _).mono ?_; rintro e w' ⟨rfl, rfl⟩; first | rw [hin1] | rw [hin2]))
  refine wp_world (fun wx => Sp bad w wx { s with stop := 3 } (cs.setIfInBounds 107 (.int .i64 3))) (HT.out.set (fun F h => stop_set h (n := 3) ⟨by omega, by omega⟩)) ?_
  intro wf hm
  have HEQ : Hid ({ s with stop := 3 } = r) := Lib.hid (by
      rw [← HR.out])
  have HB1 := Lib.hid hm.b1
  have HB2 := Lib.hid hm.b2
  have HSB := Lib.hid hm.is.size
  have HO := Lib.hid (dk_one hm.is)
  have hltf := hm.lt
  have HFIN := Lib.hid hm.fin
  rw [HEQ.out] at HFIN
  clear hm
  obtain ⟨cz, hcz⟩ : ∃ cz, cz = (cs.setIfInBounds 107 (.int .i64 3)) := ⟨_, rfl⟩
  rw [← hcz] at HB1 HSB HO HFIN
  clear hcz
  go_wp2_with (first | refine wpList_load_row rfl 25 _ rfl w.heap.size rfl 25 cz (0, 0) _ HB1.out Tryd.underlying25 rfl (by rw [HSB.out]; exact sizeS) ?_ | refine wpList_store_row rfl 25 _ _ rfl (w.heap.size + 1) cz rfl rfl 25 zeroDk HB2.out (by rw [HSB.out]; exact sizeS) (by rw [HSB.out]; rfl) HO.out ?_)
  refine bodyPost_ret (results_one rfl _ _ (w.heap.size + 1) 25 cz (0, 0) _ rfl ?_ Tryd.underlying25 rfl (by rw [HSB.out]; exact sizeS)) rfl HFIN.out
  exact setRow_heap _ _ _ _ _ _ HB2.out
end Go.Proofs.YtbaahbpianingaaDoor
