import Derived.Test.YtbaahbpianingaaDoorSpQ
namespace Go.Proofs.YtbaahbpianingaaDoor
open Go Go.Proofs Go.RowKit
open Acc (Dk red five)
set_option maxHeartbeats 12800000
set_option maxRecDepth 100000
theorem dstep_13e (bad : Nat → Prop) (cs : Array Value) (s : Dk) (w : World) (hbad : ∀ g, bad g → g < w.heap.size) (h : StAv bad w cs s) (hok : OkSt s) (hz : Acc.stopF s = 0) (hop : Acc.opF s = 13) (hin0 : s.input = []) : Calls Tryd.prog 46 #[.agg cs] w (SpRet bad w (Acc.stepF s)) := by
  obtain ⟨p, W0, a, m, ah⟩ := ahead hok hz
  rw [stepF_go hz, hop, ah.ad, ah.at_]
  rw [hop] at ah
  obtain ⟨r, hr⟩ : ∃ r, Acc.effF { s with at_ := (p : Int) + 1 } 13 (a : Int) = r := ⟨_, rfl⟩
  rw [hr]
  have HR := Lib.hid hr
  have HBAD := Lib.hid hbad
  have HOK := Lib.hid hok
  have HAH := Lib.hid ah
  have HH := Lib.hid h
  have hp100 := ah.p100
  have hw0 := ah.w0
  have hw1 := ah.w1
  have halt := ah.alt
  have fA := Acc.five_iff.1 hok.ok.a
  have fQ := Acc.five_iff.1 hok.ok.q
  have fX := Acc.five_iff.1 hok.ok.x
  have fM := Acc.five_iff.1 ah.m5
  have hin1 : inB W0 0 19999 = true := by unfold inB; simp; omega
  have hin2 : inB (a : Int) 0 99 = true := by unfold inB; simp; omega
  have HOPQ := Lib.hid ah.op
  have HSG := Lib.hid (fun W => Signed_c s.a W hok.ok.a)
  have hsg : (strOfNums (Acc.signed s.a)).size ≤ 6 := by rw [strOfNums_size]; exact signed_len hok.ok.a
  have hwm : Acc.wordAt { s with at_ := (p : Int) + 1 } (a : Int) = m := by show s.words[((a : Nat) : Int).toNat]?.getD 0 = m; rw [Int.toNat_natCast]; exact ah.mv
  have HWM := Lib.hid hwm
  clear hwm
  clear hr hz hop hbad h
  have HIN0 := Lib.hid hin0
  clear hin0
  go_enter Tryd.func46, Tryd.ntmps46
  go_upto_region 0 with (fail)
  go_cut [1, 2] (fun s1 s2 wx => s1 = .pointer (some ⟨w.heap.size, 0, none⟩) ∧ s2 = .pointer (some ⟨w.heap.size + 1, 0, none⟩) ∧ Sp bad w wx s cs)
  case first =>
      go_wp2_with (refine wpList_allocS rfl rfl ?_)
      go_meet
      exact ⟨rfl, by simp, Sp.mk0 HH.out⟩
  obtain ⟨rfl, rfl, ht⟩ := hcut
  obtain ⟨wa, rfl⟩ : ∃ wa : World, wa = wc := ⟨_, rfl⟩
  have HT := Lib.hid ht
  have hlta := ht.lt
  have kAt : wa.cell? ⟨w.heap.size, 100, none⟩ = some (.int .i64 (p : Int)) := (ht.cell 100).trans (by rw [ht.is.at_, ah.at_])
  have kW : wa.cell? ⟨w.heap.size, p, none⟩ = some (.int .i64 W0) := (ht.cell p).trans (by rw [ht.is.words p hp100, ah.wp])
  have kX : wa.cell? ⟨w.heap.size, 103, none⟩ = some (.int .i64 s.x) := (ht.cell 103).trans ht.is.x
  have kM : wa.cell? ⟨w.heap.size, a, none⟩ = some (.int .i64 m) := (ht.cell a).trans (by rw [ht.is.words a halt, ah.mv])
  have kA : wa.cell? ⟨w.heap.size, 101, none⟩ = some (.int .i64 s.a) := (ht.cell 101).trans ht.is.a
  have zAt := ht.frozen 100
  have hpne : ((p : Int) == 100) = false := by simp; omega
  clear ht
  go_upto_region 5 with (fail)
  go_cut [4] (fun s4 wx => s4 = .int .i64 13 ∧ wa = wx)
  case first =>
      go_wp2_with fail
      go_meet
      exact ⟨by rw [HOPQ.out], rfl⟩
  obtain ⟨rfl, rfl⟩ := hcut
  go_upto_region 9 with (go_at_call 22; refine (In_c _ _ _ _).mono ?_; rintro e w' ⟨rfl, rfl⟩; rw [hin1])
  go_upto_if 40 with (fail)
  go_cut [5] (fun s5 wx => s5 = .int .i64 (a : Int) ∧ wa = wx)
  case first =>
      by_cases hi : 10000 ≤ W0
      · have e1 : W0 % 100 + s.x = (a : Int) := HAH.out.adhi hi
        go_wp2_with fail
        go_meet
        exact ⟨by first | rfl | rw [e1], rfl⟩
      · have e1 : W0 % 100 = (a : Int) := HAH.out.adlo (by omega)
        go_wp2_with fail
        go_meet
        exact ⟨by first | rfl | rw [e1], rfl⟩
  obtain ⟨rfl, rfl⟩ := hcut
  generalize hgs : strOfNums (Acc.signed s.a) = SG at *
  have HGS := Lib.hid hgs
  clear hgs
  go_upto_region 26 with (first | (go_at_call 22; refine (In_c _ _ _ _).mono ?_; rintro e w' ⟨rfl, rfl⟩; rw [hin2]) | (go_at_call 72; refine (HSG.out _).mono ?_; rintro e w1 ⟨rfl, hx1⟩; have HT1 := Lib.hid (HT.out.ext hx1); have hlt1 := HT1.out.lt; have kAt1 := (HT1.out.cell 100).trans (HT1.out.is.at_.trans (by rw [HAH.out.at_])); have zAt1 := HT1.out.frozen 100; have kO1 := HT1.out.cell 106; clear hx1 kAt kW kX kM kA zAt))
  refine wp_world (fun wx => Sp bad w wx { s with at_ := (p : Int) + 1 } (cs.setIfInBounds 100 (.int .i64 ((p : Int) + 1)))) (HT1.out.set (fun F h => at_set h (n := (p : Int) + 1) ⟨by omega, by omega⟩)) ?_
  intro w2 hp2
  have hlt2 := hp2.lt
  have km2 : w2.cell? ⟨w.heap.size, a, none⟩ = some (.int .i64 m) := (hp2.cell a).trans (by rw [hp2.is.words a halt]; show some (Value.int .i64 (s.words[a]?.getD 0)) = _; rw [HAH.out.mv])
  have zm2 := hp2.frozen a
  have HP2 := Lib.hid hp2
  clear hp2 kAt1 zAt1 kO1
  obtain ⟨A5, c5, e5, l5, m5, q5, s5⟩ := HH.out.st.input
  rw [HIN0.out] at e5 l5 s5
  have hcs5 : (cs.setIfInBounds 100 (.int .i64 ((p : Int) + 1)))[105]? = cs[105]? := by rw [getD_set, if_neg (by decide)]
  have hna : ¬ a = 105 := by omega
  have hna' : ¬ 105 = a := by omega
  have k5 : w2.cell? ⟨w.heap.size, 105, none⟩ = some (.slice A5 0 c5) := (HP2.out.cell 105).trans (hcs5.trans e5)
  clear e5 l5 m5 q5 s5 hcs5
  go_upto_region 86 with ((go_at_call 42; refine (five_c _ _).mono ?_; rintro e w' ⟨rfl, rfl⟩; rw [show five 0 = true from rfl]))
  refine wp_world (fun wx => Sp bad w wx { { s with at_ := (p : Int) + 1 } with words := s.words.set a (-1) } ((cs.setIfInBounds 100 (.int .i64 ((p : Int) + 1))).setIfInBounds a (.int .i64 (-1)))) (HP2.out.set (fun F h => word_set h halt (n := -1) ⟨by omega, by omega⟩)) ?_
  intro wf hm
  have HEQ : Hid ({ { s with at_ := (p : Int) + 1 } with words := s.words.set a (-1) } = r) := Lib.hid (by
      rw [← HR.out, eff13_nil (s := { s with at_ := (p : Int) + 1 }) HIN0.out, Int.toNat_natCast])
  have HB1 := Lib.hid hm.b1
  have HB2 := Lib.hid hm.b2
  have HSB := Lib.hid hm.is.size
  have HO := Lib.hid (dk_one hm.is)
  have hltf := hm.lt
  have HFIN := Lib.hid hm.fin
  rw [HEQ.out] at HFIN
  clear hm
  obtain ⟨cz, hcz⟩ : ∃ cz, cz = ((cs.setIfInBounds 100 (.int .i64 ((p : Int) + 1))).setIfInBounds a (.int .i64 (-1))) := ⟨_, rfl⟩
  rw [← hcz] at HB1 HSB HO HFIN
  clear hcz
  go_wp2_with (first | refine wpList_load_row rfl 25 _ rfl w.heap.size rfl 25 cz (0, 0) _ HB1.out Tryd.underlying25 rfl (by rw [HSB.out]; exact sizeS) ?_ | refine wpList_store_row rfl 25 _ _ rfl (w.heap.size + 1) cz rfl rfl 25 zeroDk HB2.out (by rw [HSB.out]; exact sizeS) (by rw [HSB.out]; rfl) HO.out ?_)
  refine bodyPost_ret (results_one rfl _ _ (w.heap.size + 1) 25 cz (0, 0) _ rfl ?_ Tryd.underlying25 rfl (by rw [HSB.out]; exact sizeS)) rfl HFIN.out
  exact setRow_heap _ _ _ _ _ _ HB2.out
theorem dstep_13x (bad : Nat → Prop) (cs : Array Value) (s : Dk) (w : World) (hbad : ∀ g, bad g → g < w.heap.size) (h : StAv bad w cs s) (hok : OkSt s) (hz : Acc.stopF s = 0) (hop : Acc.opF s = 13) (xi : Int) (ri : List Int) (hin0 : s.input = xi :: ri) : Calls Tryd.prog 46 #[.agg cs] w (SpRet bad w (Acc.stepF s)) := by
  obtain ⟨p, W0, a, m, ah⟩ := ahead hok hz
  rw [stepF_go hz, hop, ah.ad, ah.at_]
  rw [hop] at ah
  obtain ⟨r, hr⟩ : ∃ r, Acc.effF { s with at_ := (p : Int) + 1 } 13 (a : Int) = r := ⟨_, rfl⟩
  rw [hr]
  have HR := Lib.hid hr
  have HBAD := Lib.hid hbad
  have HOK := Lib.hid hok
  have HAH := Lib.hid ah
  have HH := Lib.hid h
  have hp100 := ah.p100
  have hw0 := ah.w0
  have hw1 := ah.w1
  have halt := ah.alt
  have fA := Acc.five_iff.1 hok.ok.a
  have fQ := Acc.five_iff.1 hok.ok.q
  have fX := Acc.five_iff.1 hok.ok.x
  have fM := Acc.five_iff.1 ah.m5
  have hin1 : inB W0 0 19999 = true := by unfold inB; simp; omega
  have hin2 : inB (a : Int) 0 99 = true := by unfold inB; simp; omega
  have HOPQ := Lib.hid ah.op
  have HSG := Lib.hid (fun W => Signed_c s.a W hok.ok.a)
  have hsg : (strOfNums (Acc.signed s.a)).size ≤ 6 := by rw [strOfNums_size]; exact signed_len hok.ok.a
  have hwm : Acc.wordAt { s with at_ := (p : Int) + 1 } (a : Int) = m := by show s.words[((a : Nat) : Int).toNat]?.getD 0 = m; rw [Int.toNat_natCast]; exact ah.mv
  have HWM := Lib.hid hwm
  clear hwm
  clear hr hz hop hbad h
  have HIN0 := Lib.hid hin0
  clear hin0
  go_enter Tryd.func46, Tryd.ntmps46
  go_upto_region 0 with (fail)
  go_cut [1, 2] (fun s1 s2 wx => s1 = .pointer (some ⟨w.heap.size, 0, none⟩) ∧ s2 = .pointer (some ⟨w.heap.size + 1, 0, none⟩) ∧ Sp bad w wx s cs)
  case first =>
      go_wp2_with (refine wpList_allocS rfl rfl ?_)
      go_meet
      exact ⟨rfl, by simp, Sp.mk0 HH.out⟩
  obtain ⟨rfl, rfl, ht⟩ := hcut
  obtain ⟨wa, rfl⟩ : ∃ wa : World, wa = wc := ⟨_, rfl⟩
  have HT := Lib.hid ht
  have hlta := ht.lt
  have kAt : wa.cell? ⟨w.heap.size, 100, none⟩ = some (.int .i64 (p : Int)) := (ht.cell 100).trans (by rw [ht.is.at_, ah.at_])
  have kW : wa.cell? ⟨w.heap.size, p, none⟩ = some (.int .i64 W0) := (ht.cell p).trans (by rw [ht.is.words p hp100, ah.wp])
  have kX : wa.cell? ⟨w.heap.size, 103, none⟩ = some (.int .i64 s.x) := (ht.cell 103).trans ht.is.x
  have kM : wa.cell? ⟨w.heap.size, a, none⟩ = some (.int .i64 m) := (ht.cell a).trans (by rw [ht.is.words a halt, ah.mv])
  have kA : wa.cell? ⟨w.heap.size, 101, none⟩ = some (.int .i64 s.a) := (ht.cell 101).trans ht.is.a
  have zAt := ht.frozen 100
  have hpne : ((p : Int) == 100) = false := by simp; omega
  clear ht
  go_upto_region 5 with (fail)
  go_cut [4] (fun s4 wx => s4 = .int .i64 13 ∧ wa = wx)
  case first =>
      go_wp2_with fail
      go_meet
      exact ⟨by rw [HOPQ.out], rfl⟩
  obtain ⟨rfl, rfl⟩ := hcut
  go_upto_region 9 with (go_at_call 22; refine (In_c _ _ _ _).mono ?_; rintro e w' ⟨rfl, rfl⟩; rw [hin1])
  go_upto_if 40 with (fail)
  go_cut [5] (fun s5 wx => s5 = .int .i64 (a : Int) ∧ wa = wx)
  case first =>
      by_cases hi : 10000 ≤ W0
      · have e1 : W0 % 100 + s.x = (a : Int) := HAH.out.adhi hi
        go_wp2_with fail
        go_meet
        exact ⟨by first | rfl | rw [e1], rfl⟩
      · have e1 : W0 % 100 = (a : Int) := HAH.out.adlo (by omega)
        go_wp2_with fail
        go_meet
        exact ⟨by first | rfl | rw [e1], rfl⟩
  obtain ⟨rfl, rfl⟩ := hcut
  generalize hgs : strOfNums (Acc.signed s.a) = SG at *
  have HGS := Lib.hid hgs
  clear hgs
  go_upto_region 26 with (first | (go_at_call 22; refine (In_c _ _ _ _).mono ?_; rintro e w' ⟨rfl, rfl⟩; rw [hin2]) | (go_at_call 72; refine (HSG.out _).mono ?_; rintro e w1 ⟨rfl, hx1⟩; have HT1 := Lib.hid (HT.out.ext hx1); have hlt1 := HT1.out.lt; have kAt1 := (HT1.out.cell 100).trans (HT1.out.is.at_.trans (by rw [HAH.out.at_])); have zAt1 := HT1.out.frozen 100; have kO1 := HT1.out.cell 106; clear hx1 kAt kW kX kM kA zAt))
  refine wp_world (fun wx => Sp bad w wx { s with at_ := (p : Int) + 1 } (cs.setIfInBounds 100 (.int .i64 ((p : Int) + 1)))) (HT1.out.set (fun F h => at_set h (n := (p : Int) + 1) ⟨by omega, by omega⟩)) ?_
  intro w2 hp2
  have hlt2 := hp2.lt
  have km2 : w2.cell? ⟨w.heap.size, a, none⟩ = some (.int .i64 m) := (hp2.cell a).trans (by rw [hp2.is.words a halt]; show some (Value.int .i64 (s.words[a]?.getD 0)) = _; rw [HAH.out.mv])
  have zm2 := hp2.frozen a
  have HP2 := Lib.hid hp2
  clear hp2 kAt1 zAt1 kO1
  obtain ⟨A5, c5, e5, l5, m5, q5, s5⟩ := HH.out.st.input
  rw [HIN0.out] at e5 l5 s5
  have hcs5 : (cs.setIfInBounds 100 (.int .i64 ((p : Int) + 1)))[105]? = cs[105]? := by rw [getD_set, if_neg (by decide)]
  have hna : ¬ a = 105 := by omega
  have hna' : ¬ 105 = a := by omega
  obtain ⟨b5, o5, x5, rfl, hx5, kx5⟩ := s5.at2 (show 0 < (xi :: ri).length by simp)
  have hxe : xi = x5 := by have := hx5.out; simpa using this
  subst hxe
  have hb5 := World.block_lt_of_cell? w _ kx5
  simp only at hb5
  have hn5 : ¬ b5 = w.heap.size := by omega
  have hn5' : ¬ w.heap.size = b5 := by omega
  have kx6 := HP2.out.x.cell kx5
  simp only [Nat.add_zero] at kx6
  have e5' : (cs.setIfInBounds 100 (.int .i64 ((p : Int) + 1)))[105]? = some (.slice (some ⟨b5, o5, none⟩) (ri.length + 1) c5) := hcs5.trans e5
  have k5 : w2.cell? ⟨w.heap.size, 105, none⟩ = some (.slice (some ⟨b5, o5, none⟩) (ri.length + 1) c5) := (HP2.out.cell 105).trans e5'
  have z5 := HP2.out.frozen 105
  have HE5 := Lib.hid e5'
  have bx : 0 ≤ xi ∧ xi < 256 := HOK.out.ok.byt xi (by rw [HIN0.out]; simp)
  obtain ⟨bx0, bx1⟩ := bx
  have HBR := Lib.hid (show Byt ri from fun z hz => HOK.out.ok.byt z (by rw [HIN0.out]; simp [hz]))
  have hwx : IntKind.i64.wrap xi = xi := IntWalk.i64_in _ (by omega)
  obtain ⟨i5, hi5, hz5, hz51, hz52⟩ := info_parts infoB
  have hs5 : ∀ W : World, (Instr.slice 23 (.slice (some ⟨b5, o5, none⟩) (ri.length + 1) c5) (some (.int .i64 1)) none none).run Tryd.prog W = .ok (.slice (if c5 = 1 then some ⟨b5, o5, none⟩ else (some (⟨b5, o5, none⟩ : Addr)).map (·.add 1)) (ri.length + 1 - 1) (c5 - 1)) W := fun W => run_slice_from1 (P := Tryd.prog) W 23 5 i5 Tryd.underlying23 hi5 hz51 (some ⟨b5, o5, none⟩) (ri.length + 1) c5 .i64 (by omega)
  have HTL := Lib.hid (fun (F : World) (h : SlAt F .u8 (some (.slice (some ⟨b5, o5, none⟩) (ri.length + 1) c5)) (xi :: ri)) => slAt_tail h)
  obtain ⟨A7, hA7⟩ : ∃ A7, (if c5 = 1 then some ⟨b5, o5, none⟩ else (some (⟨b5, o5, none⟩ : Addr)).map (·.add 1)) = A7 := ⟨_, rfl⟩
  rw [hA7] at hs5 HTL
  simp only [Nat.add_sub_cancel] at hs5
  have hrl : ri.length + 1 ≤ 1000 := by have := HOK.out.ok.input; rw [HIN0.out] at this; simpa using this
  clear e5 e5' s5 kx5 hi5 hz5 hz51 hz52 hA7 l5 m5 q5 hcs5
  go_upto_region 86 with ((go_at_call 42; refine (five_c _ _).mono ?_; rintro e w' ⟨rfl, rfl⟩; rw [show five 0 = true from rfl]))
  refine wp_world (fun wx => Sp bad w wx { { { { s with at_ := (p : Int) + 1 } with words := s.words.set a (-1) } with words := (s.words.set a (-1)).set a xi } with input := ri } ((((cs.setIfInBounds 100 (.int .i64 ((p : Int) + 1))).setIfInBounds a (.int .i64 (-1))).setIfInBounds a (.int .i64 xi)).setIfInBounds 105 (.slice A7 ri.length (c5 - 1)))) (((HP2.out.set (fun F h => word_set h halt (n := -1) ⟨by omega, by omega⟩)).set (fun F h => word_set (s := { { s with at_ := (p : Int) + 1 } with words := s.words.set a (-1) }) h halt (n := xi) ⟨by omega, by omega⟩)).set (fun F h => in_set (s := { { { s with at_ := (p : Int) + 1 } with words := s.words.set a (-1) } with words := (s.words.set a (-1)).set a xi }) h (HTL.out F (by have := h.input; rw [getD_set, if_neg hna, getD_set, if_neg hna, HE5.out] at this; have q : SlAt F .u8 (some (.slice (some ⟨b5, o5, none⟩) (ri.length + 1) c5)) s.input := this; rw [HIN0.out] at q; exact q)) HBR.out)) ?_
  intro wf hm
  have HEQ : Hid ({ { { { s with at_ := (p : Int) + 1 } with words := s.words.set a (-1) } with words := (s.words.set a (-1)).set a xi } with input := ri } = r) := Lib.hid (by
      rw [← HR.out, eff13_cons (s := { s with at_ := (p : Int) + 1 }) HIN0.out, Int.toNat_natCast, List.set_set])
  have HB1 := Lib.hid hm.b1
  have HB2 := Lib.hid hm.b2
  have HSB := Lib.hid hm.is.size
  have HO := Lib.hid (dk_one hm.is)
  have hltf := hm.lt
  have HFIN := Lib.hid hm.fin
  rw [HEQ.out] at HFIN
  clear hm
  obtain ⟨cz, hcz⟩ : ∃ cz, cz = ((((cs.setIfInBounds 100 (.int .i64 ((p : Int) + 1))).setIfInBounds a (.int .i64 (-1))).setIfInBounds a (.int .i64 xi)).setIfInBounds 105 (.slice A7 ri.length (c5 - 1))) := ⟨_, rfl⟩
  rw [← hcz] at HB1 HSB HO HFIN
  clear hcz
  go_wp2_with (first | refine wpList_load_row rfl 25 _ rfl w.heap.size rfl 25 cz (0, 0) _ HB1.out Tryd.underlying25 rfl (by rw [HSB.out]; exact sizeS) ?_ | refine wpList_store_row rfl 25 _ _ rfl (w.heap.size + 1) cz rfl rfl 25 zeroDk HB2.out (by rw [HSB.out]; exact sizeS) (by rw [HSB.out]; rfl) HO.out ?_)
  refine bodyPost_ret (results_one rfl _ _ (w.heap.size + 1) 25 cz (0, 0) _ rfl ?_ Tryd.underlying25 rfl (by rw [HSB.out]; exact sizeS)) rfl HFIN.out
  exact setRow_heap _ _ _ _ _ _ HB2.out
end Go.Proofs.YtbaahbpianingaaDoor
namespace Go.Proofs.YtbaahbpianingaaDoor
open Go Go.Proofs Go.RowKit
open Acc (Dk red five)
set_option maxHeartbeats 12800000
set_option maxRecDepth 100000
theorem dstep_14 (bad : Nat → Prop) (cs : Array Value) (s : Dk) (w : World) (hbad : ∀ g, bad g → g < w.heap.size) (h : StAv bad w cs s) (hok : OkSt s) (hz : Acc.stopF s = 0) (hop : Acc.opF s = 14) : Calls Tryd.prog 46 #[.agg cs] w (SpRet bad w (Acc.stepF s)) := by
  obtain ⟨p, W0, a, m, ah⟩ := ahead hok hz
  rw [stepF_go hz, hop, ah.ad, ah.at_]
  rw [hop] at ah
  obtain ⟨r, hr⟩ : ∃ r, Acc.effF { s with at_ := (p : Int) + 1 } 14 (a : Int) = r := ⟨_, rfl⟩
  rw [hr]
  have HR := Lib.hid hr
  have HBAD := Lib.hid hbad
  have HOK := Lib.hid hok
  have HAH := Lib.hid ah
  have HH := Lib.hid h
  have hp100 := ah.p100
  have hw0 := ah.w0
  have hw1 := ah.w1
  have halt := ah.alt
  have fA := Acc.five_iff.1 hok.ok.a
  have fQ := Acc.five_iff.1 hok.ok.q
  have fX := Acc.five_iff.1 hok.ok.x
  have fM := Acc.five_iff.1 ah.m5
  have hin1 : inB W0 0 19999 = true := by unfold inB; simp; omega
  have hin2 : inB (a : Int) 0 99 = true := by unfold inB; simp; omega
  have HOPQ := Lib.hid ah.op
  have HSG := Lib.hid (fun W => Signed_c s.a W hok.ok.a)
  have hsg : (strOfNums (Acc.signed s.a)).size ≤ 6 := by rw [strOfNums_size]; exact signed_len hok.ok.a
  have hwm : Acc.wordAt { s with at_ := (p : Int) + 1 } (a : Int) = m := by show s.words[((a : Nat) : Int).toNat]?.getD 0 = m; rw [Int.toNat_natCast]; exact ah.mv
  have HWM := Lib.hid hwm
  clear hwm
  clear hr hz hop hbad h
  have hd14 := ah.d14 rfl
  have HLS := Lib.hid (line_str s.a)
  have HLB := Lib.hid (signed_byt' s.a)
  obtain ⟨A4, c4, e4, l4, m4, q4, s4⟩ := HH.out.st.output
  have HE4 := Lib.hid e4
  have HS4 := Lib.hid s4
  have hll : (strOfNums (Acc.signed s.a)).size + 1 = (Acc.lineF s.a).length := by rw [strOfNums_size]; unfold Acc.lineF; simp
  have hout1 : s.output.length + ((strOfNums (Acc.signed s.a)).size + 1) ≤ 1000 := by omega
  have HLL := Lib.hid hll
  have hol := hok.ok.output
  clear hll e4 s4 hd14
  go_enter Tryd.func46, Tryd.ntmps46
  go_upto_region 0 with (fail)
  go_cut [1, 2] (fun s1 s2 wx => s1 = .pointer (some ⟨w.heap.size, 0, none⟩) ∧ s2 = .pointer (some ⟨w.heap.size + 1, 0, none⟩) ∧ Sp bad w wx s cs)
  case first =>
      go_wp2_with (refine wpList_allocS rfl rfl ?_)
      go_meet
      exact ⟨rfl, by simp, Sp.mk0 HH.out⟩
  obtain ⟨rfl, rfl, ht⟩ := hcut
  obtain ⟨wa, rfl⟩ : ∃ wa : World, wa = wc := ⟨_, rfl⟩
  have HT := Lib.hid ht
  have hlta := ht.lt
  have kAt : wa.cell? ⟨w.heap.size, 100, none⟩ = some (.int .i64 (p : Int)) := (ht.cell 100).trans (by rw [ht.is.at_, ah.at_])
  have kW : wa.cell? ⟨w.heap.size, p, none⟩ = some (.int .i64 W0) := (ht.cell p).trans (by rw [ht.is.words p hp100, ah.wp])
  have kX : wa.cell? ⟨w.heap.size, 103, none⟩ = some (.int .i64 s.x) := (ht.cell 103).trans ht.is.x
  have kM : wa.cell? ⟨w.heap.size, a, none⟩ = some (.int .i64 m) := (ht.cell a).trans (by rw [ht.is.words a halt, ah.mv])
  have kA : wa.cell? ⟨w.heap.size, 101, none⟩ = some (.int .i64 s.a) := (ht.cell 101).trans ht.is.a
  have zAt := ht.frozen 100
  have hpne : ((p : Int) == 100) = false := by simp; omega
  clear ht
  go_upto_region 5 with (fail)
  go_cut [4] (fun s4 wx => s4 = .int .i64 14 ∧ wa = wx)
  case first =>
      go_wp2_with fail
      go_meet
      exact ⟨by rw [HOPQ.out], rfl⟩
  obtain ⟨rfl, rfl⟩ := hcut
  go_upto_region 9 with (go_at_call 22; refine (In_c _ _ _ _).mono ?_; rintro e w' ⟨rfl, rfl⟩; rw [hin1])
  go_upto_if 40 with (fail)
  go_cut [5] (fun s5 wx => s5 = .int .i64 (a : Int) ∧ wa = wx)
  case first =>
      by_cases hi : 10000 ≤ W0
      · have e1 : W0 % 100 + s.x = (a : Int) := HAH.out.adhi hi
        go_wp2_with fail
        go_meet
        exact ⟨by first | rfl | rw [e1], rfl⟩
      · have e1 : W0 % 100 = (a : Int) := HAH.out.adlo (by omega)
        go_wp2_with fail
        go_meet
        exact ⟨by first | rfl | rw [e1], rfl⟩
  obtain ⟨rfl, rfl⟩ := hcut
  generalize hgs : strOfNums (Acc.signed s.a) = SG at *
  have HGS := Lib.hid hgs
  clear hgs
  go_upto_region 26 with (first | (go_at_call 22; refine (In_c _ _ _ _).mono ?_; rintro e w' ⟨rfl, rfl⟩; rw [hin2]) | (go_at_call 72; refine (HSG.out _).mono ?_; rintro e w1 ⟨rfl, hx1⟩; have HT1 := Lib.hid (HT.out.ext hx1); have hlt1 := HT1.out.lt; have kAt1 := (HT1.out.cell 100).trans (HT1.out.is.at_.trans (by rw [HAH.out.at_])); have zAt1 := HT1.out.frozen 100; have kO1 := (HT1.out.cell 106).trans HE4.out; clear hx1 kAt kW kX kM kA zAt))
  refine wp_world (fun wx => Sp bad w wx { s with at_ := (p : Int) + 1 } (cs.setIfInBounds 100 (.int .i64 ((p : Int) + 1)))) (HT1.out.set (fun F h => at_set h (n := (p : Int) + 1) ⟨by omega, by omega⟩)) ?_
  intro w2 hp2
  have hlt2 := hp2.lt
  have k1012 : w2.cell? ⟨w.heap.size, 101, none⟩ = some (.int .i64 s.a) := (hp2.cell 101).trans hp2.is.a
  have z1012 := hp2.frozen 101
  have HP2 := Lib.hid hp2
  clear hp2 kAt1 zAt1 kO1
  have hcs6 : (cs.setIfInBounds 100 (.int .i64 ((p : Int) + 1)))[106]? = some (.slice A4 s.output.length c4) := by rw [getD_set, if_neg (by decide)]; exact HE4.out
  have HCS := Lib.hid hcs6
  have k106 : w2.cell? ⟨w.heap.size, 106, none⟩ = some (.slice A4 s.output.length c4) := (HP2.out.cell 106).trans hcs6
  clear hcs6
  have z106 := HP2.out.frozen 106
  obtain ⟨i4, hi4, hz4, hz41, hz42⟩ := info_parts infoB
  have HI4 := Lib.hid hi4
  have HZ4 := Lib.hid hz4
  have HZ41 := Lib.hid hz41
  have HZ42 := Lib.hid hz42
  have HSX := Lib.hid (HS4.out.ext HP2.out.x)
  clear hi4 hz4 hz41 hz42
  go_upto_region 69 with (at_builtin; refine wpList_append_sl rfl _ _ 23 rfl (w.heap.size + 2) 5 i4 (.int .u8 0) 1 1 Tryd.underlying23 HI4.out HZ4.out HZ41.out HZ42.out rfl (by decide) _ 0 [] rfl (World.ownsRow_nil _ _ _ _) A4 s.output.length c4 (s.output.map (Value.int .u8)) rfl HSX.out (by simp) ints_one (by unfold maxLen; omega) (by omega) (by omega) ?_; intro v4 w4 ho4 hg4 h4; simp only [Nat.zero_add, List.nil_append] at ho4; obtain ⟨A6, c6, rfl, _, _, _, _⟩ := own_sl ho4; have HO4 := Lib.hid ho4; have HG4 := Lib.hid hg4; have H4 := Lib.hid h4; clear ho4 hg4 h4)
  have hlt4 : w.heap.size + 2 ≤ w4.heap.size := Nat.le_trans hlt2 HG4.out.size
  have hsz1 : s.output.length + (SG ++ (⟨#[10]⟩ : ByteArray)).size ≤ maxLen := by rw [ByteArray.size_append]; show s.output.length + (SG.size + 1) ≤ _; unfold maxLen; omega
  have hsz2 : s.output.length + (SG ++ (⟨#[10]⟩ : ByteArray)).size ≤ 140737488355328 := by rw [ByteArray.size_append]; show s.output.length + (SG.size + 1) ≤ _; omega
  obtain ⟨LN, hLN⟩ : ∃ LN, LN = (s.output ++ Acc.lineF s.a).length := ⟨_, rfl⟩
  have HLN := Lib.hid hLN
  have HLEN : Hid (s.output.length + (SG ++ (⟨#[10]⟩ : ByteArray)).size = LN) := Lib.hid (by rw [hLN, List.length_append, ByteArray.size_append, ← HLL.out]; rfl)
  have HXS : Hid (s.output.map (Value.int .u8) ++ Lib.strCells (SG ++ (⟨#[10]⟩ : ByteArray)) = (s.output ++ Acc.lineF s.a).map (Value.int .u8)) := Lib.hid (by rw [HLS.out, strCells_nums HLB.out, List.map_append])
  clear hLN
  go_upto_region 84 with (at_builtin; refine wpList_append_str rfl _ _ 23 9 rfl (w.heap.size + 2) 5 i4 Tryd.underlying23 Tryd.underlying9 HI4.out HZ4.out HZ41.out HZ42.out (.slice A6 s.output.length c6) s.output.length (s.output.map (Value.int .u8)) rfl HO4.out _ rfl hsz1 hsz2 hlt4 ?_; intro v5 w5 hr5; rw [HLEN.out, HXS.out] at hr5; obtain ⟨A7, c7, rfl, _, _, _, _⟩ := own_sl hr5.own; have HR5 := Lib.hid hr5; have HX5 := Lib.hid (ext_two HG4.out H4.out hr5.grown); have HP5 := Lib.hid (HP2.out.ext HX5.out); have k106b := (HP5.out.cell 106).trans HCS.out; have z106b := HP5.out.frozen 106; have hlt5 := HP5.out.lt; clear hr5)
  have HO5 : Hid (w5.ownsRow (w.heap.size + 2) 5 1 (.slice A7 LN c7) (s.output ++ Acc.lineF s.a).length ((s.output ++ Acc.lineF s.a).map (Value.int .u8))) := Lib.hid (by rw [← HLN.out]; exact HR5.out.own)
  have HBO : Hid (Byt (s.output ++ Acc.lineF s.a)) := Lib.hid (fun x hx => (List.mem_append.1 hx).elim (fun hx => HOK.out.outb x hx) (fun hx => HLB.out x hx))
  go_upto_region 86 with ((go_at_call 42; refine (five_c _ _).mono ?_; rintro e w' ⟨rfl, rfl⟩; rw [show five 0 = true from rfl]))
  refine wp_world (fun wx => Sp bad w wx { { s with at_ := (p : Int) + 1 } with output := s.output ++ Acc.lineF s.a } ((cs.setIfInBounds 100 (.int .i64 ((p : Int) + 1))).setIfInBounds 106 (.slice A7 LN c7))) (HP5.out.setOut (fun F hF => own_agr HBAD.out HO5.out hF) HBO.out) ?_
  intro wf hm
  have HEQ : Hid ({ { s with at_ := (p : Int) + 1 } with output := s.output ++ Acc.lineF s.a } = r) := Lib.hid (by
      rw [← HR.out, eff14_eq])
  have HB1 := Lib.hid hm.b1
  have HB2 := Lib.hid hm.b2
  have HSB := Lib.hid hm.is.size
  have HO := Lib.hid (dk_one hm.is)
  have hltf := hm.lt
  have HFIN := Lib.hid hm.fin
  rw [HEQ.out] at HFIN
  clear hm
  obtain ⟨cz, hcz⟩ : ∃ cz, cz = ((cs.setIfInBounds 100 (.int .i64 ((p : Int) + 1))).setIfInBounds 106 (.slice A7 LN c7)) := ⟨_, rfl⟩
  rw [← hcz] at HB1 HSB HO HFIN
  clear hcz
  go_wp2_with (first | refine wpList_load_row rfl 25 _ rfl w.heap.size rfl 25 cz (0, 0) _ HB1.out Tryd.underlying25 rfl (by rw [HSB.out]; exact sizeS) ?_ | refine wpList_store_row rfl 25 _ _ rfl (w.heap.size + 1) cz rfl rfl 25 zeroDk HB2.out (by rw [HSB.out]; exact sizeS) (by rw [HSB.out]; rfl) HO.out ?_)
  refine bodyPost_ret (results_one rfl _ _ (w.heap.size + 1) 25 cz (0, 0) _ rfl ?_ Tryd.underlying25 rfl (by rw [HSB.out]; exact sizeS)) rfl HFIN.out
  exact setRow_heap _ _ _ _ _ _ HB2.out
end Go.Proofs.YtbaahbpianingaaDoor
namespace Go.Proofs.YtbaahbpianingaaDoor
open Go Go.Proofs Go.RowKit
open Acc (Dk red five)
set_option maxHeartbeats 12800000
set_option maxRecDepth 100000
theorem dstep_15 (bad : Nat → Prop) (cs : Array Value) (s : Dk) (w : World) (hbad : ∀ g, bad g → g < w.heap.size) (h : StAv bad w cs s) (hok : OkSt s) (hz : Acc.stopF s = 0) (hop : Acc.opF s = 15) : Calls Tryd.prog 46 #[.agg cs] w (SpRet bad w (Acc.stepF s)) := by
  obtain ⟨p, W0, a, m, ah⟩ := ahead hok hz
  rw [stepF_go hz, hop, ah.ad, ah.at_]
  rw [hop] at ah
  obtain ⟨r, hr⟩ : ∃ r, Acc.effF { s with at_ := (p : Int) + 1 } 15 (a : Int) = r := ⟨_, rfl⟩
  rw [hr]
  have HR := Lib.hid hr
  have HBAD := Lib.hid hbad
  have HOK := Lib.hid hok
  have HAH := Lib.hid ah
  have HH := Lib.hid h
  have hp100 := ah.p100
  have hw0 := ah.w0
  have hw1 := ah.w1
  have halt := ah.alt
  have fA := Acc.five_iff.1 hok.ok.a
  have fQ := Acc.five_iff.1 hok.ok.q
  have fX := Acc.five_iff.1 hok.ok.x
  have fM := Acc.five_iff.1 ah.m5
  have hin1 : inB W0 0 19999 = true := by unfold inB; simp; omega
  have hin2 : inB (a : Int) 0 99 = true := by unfold inB; simp; omega
  have HOPQ := Lib.hid ah.op
  have HSG := Lib.hid (fun W => Signed_c s.a W hok.ok.a)
  have hsg : (strOfNums (Acc.signed s.a)).size ≤ 6 := by rw [strOfNums_size]; exact signed_len hok.ok.a
  have hwm : Acc.wordAt { s with at_ := (p : Int) + 1 } (a : Int) = m := by show s.words[((a : Nat) : Int).toNat]?.getD 0 = m; rw [Int.toNat_natCast]; exact ah.mv
  have HWM := Lib.hid hwm
  clear hwm
  clear hr hz hop hbad h
  go_enter Tryd.func46, Tryd.ntmps46
  go_upto_region 0 with (fail)
  go_cut [1, 2] (fun s1 s2 wx => s1 = .pointer (some ⟨w.heap.size, 0, none⟩) ∧ s2 = .pointer (some ⟨w.heap.size + 1, 0, none⟩) ∧ Sp bad w wx s cs)
  case first =>
      go_wp2_with (refine wpList_allocS rfl rfl ?_)
      go_meet
      exact ⟨rfl, by simp, Sp.mk0 HH.out⟩
  obtain ⟨rfl, rfl, ht⟩ := hcut
  obtain ⟨wa, rfl⟩ : ∃ wa : World, wa = wc := ⟨_, rfl⟩
  have HT := Lib.hid ht
  have hlta := ht.lt
  have kAt : wa.cell? ⟨w.heap.size, 100, none⟩ = some (.int .i64 (p : Int)) := (ht.cell 100).trans (by rw [ht.is.at_, ah.at_])
  have kW : wa.cell? ⟨w.heap.size, p, none⟩ = some (.int .i64 W0) := (ht.cell p).trans (by rw [ht.is.words p hp100, ah.wp])
  have kX : wa.cell? ⟨w.heap.size, 103, none⟩ = some (.int .i64 s.x) := (ht.cell 103).trans ht.is.x
  have kM : wa.cell? ⟨w.heap.size, a, none⟩ = some (.int .i64 m) := (ht.cell a).trans (by rw [ht.is.words a halt, ah.mv])
  have kA : wa.cell? ⟨w.heap.size, 101, none⟩ = some (.int .i64 s.a) := (ht.cell 101).trans ht.is.a
  have zAt := ht.frozen 100
  have hpne : ((p : Int) == 100) = false := by simp; omega
  clear ht
  go_upto_region 5 with (fail)
  go_cut [4] (fun s4 wx => s4 = .int .i64 15 ∧ wa = wx)
  case first =>
      go_wp2_with fail
      go_meet
      exact ⟨by rw [HOPQ.out], rfl⟩
  obtain ⟨rfl, rfl⟩ := hcut
  go_upto_region 9 with (go_at_call 22; refine (In_c _ _ _ _).mono ?_; rintro e w' ⟨rfl, rfl⟩; rw [hin1])
  go_upto_if 40 with (fail)
  go_cut [5] (fun s5 wx => s5 = .int .i64 (a : Int) ∧ wa = wx)
  case first =>
      by_cases hi : 10000 ≤ W0
      · have e1 : W0 % 100 + s.x = (a : Int) := HAH.out.adhi hi
        go_wp2_with fail
        go_meet
        exact ⟨by first | rfl | rw [e1], rfl⟩
      · have e1 : W0 % 100 = (a : Int) := HAH.out.adlo (by omega)
        go_wp2_with fail
        go_meet
        exact ⟨by first | rfl | rw [e1], rfl⟩
  obtain ⟨rfl, rfl⟩ := hcut
  generalize hgs : strOfNums (Acc.signed s.a) = SG at *
  have HGS := Lib.hid hgs
  clear hgs
  go_upto_region 26 with (first | (go_at_call 22; refine (In_c _ _ _ _).mono ?_; rintro e w' ⟨rfl, rfl⟩; rw [hin2]) | (go_at_call 72; refine (HSG.out _).mono ?_; rintro e w1 ⟨rfl, hx1⟩; have HT1 := Lib.hid (HT.out.ext hx1); have hlt1 := HT1.out.lt; have kAt1 := (HT1.out.cell 100).trans (HT1.out.is.at_.trans (by rw [HAH.out.at_])); have zAt1 := HT1.out.frozen 100; have kO1 := HT1.out.cell 106; clear hx1 kAt kW kX kM kA zAt))
  refine wp_world (fun wx => Sp bad w wx { s with at_ := (p : Int) + 1 } (cs.setIfInBounds 100 (.int .i64 ((p : Int) + 1)))) (HT1.out.set (fun F h => at_set h (n := (p : Int) + 1) ⟨by omega, by omega⟩)) ?_
  intro w2 hp2
  have hlt2 := hp2.lt
  have HP2 := Lib.hid hp2
  clear hp2 kAt1 zAt1 kO1
  have HA5 := Lib.hid HOK.out.ok.a
  go_wp2_with fail
  go_loopw [12] (fun t wx => ∃ j : Nat, ∃ cx, j ≤ a ∧ t = .int .i64 j ∧ Sp bad w wx { { s with at_ := (p : Int) + 1 } with a := Acc.itR j s.a } cx) (fun t _ => a - (intOf t).toNat)
  case atStart => exact ⟨0, _, Nat.zero_le _, rfl, HP2.out⟩
  case round =>
    obtain ⟨j, cx, hj, rfl, hpr⟩ := hrel
    have hltr := hpr.lt
    have HPR := Lib.hid hpr
    have krA : wr.cell? ⟨w.heap.size, 101, none⟩ = some (.int .i64 (Acc.itR j s.a)) := (hpr.cell 101).trans hpr.is.a
    have zrA := hpr.frozen 101
    have hy5 := Acc.five_iff.1 (itR_five j s.a HA5.out)
    have HIT := Lib.hid (itR_succ j s.a)
    have HI5 := Lib.hid (itR_five (j + 1) s.a HA5.out)
    clear hpr
    by_cases hlt : j < a
    · generalize Acc.itR j s.a = y at *
      go_wp2_with (go_at_call 73; refine (reduced_c _ _ ⟨by omega, by omega⟩).mono ?_; rintro e w' ⟨rfl, rfl⟩; rw [← HIT.out])
      refine ⟨⟨j + 1, _, by omega, by go_num, HPR.out.set (fun F h => a_set h (n := Acc.itR (j + 1) s.a) (five_i64 HI5.out))⟩, by simp [intOf]; omega⟩
    · obtain rfl : j = a := by omega
      clear krA zrA hy5 HIT HI5
      go_upto_region 86 with ((go_at_call 42; refine (five_c _ _).mono ?_; rintro e w' ⟨rfl, rfl⟩; rw [show five 0 = true from rfl]))
      refine wp_world (fun wx => Sp bad w wx { { s with at_ := (p : Int) + 1 } with a := Acc.itR j s.a } cx) HPR.out ?_
      intro wf hm
      have HEQ : Hid ({ { s with at_ := (p : Int) + 1 } with a := Acc.itR j s.a } = r) := Lib.hid (by
          rw [← HR.out, eff15_eq (s := { s with at_ := (p : Int) + 1 }) j HA5.out])
      have HB1 := Lib.hid hm.b1
      have HB2 := Lib.hid hm.b2
      have HSB := Lib.hid hm.is.size
      have HO := Lib.hid (dk_one hm.is)
      have hltf := hm.lt
      have HFIN := Lib.hid hm.fin
      rw [HEQ.out] at HFIN
      clear hm
      obtain ⟨cz, hcz⟩ : ∃ cz, cz = cx := ⟨_, rfl⟩
      rw [← hcz] at HB1 HSB HO HFIN
      clear hcz
      go_wp2_with (first | refine wpList_load_row rfl 25 _ rfl w.heap.size rfl 25 cz (0, 0) _ HB1.out Tryd.underlying25 rfl (by rw [HSB.out]; exact sizeS) ?_ | refine wpList_store_row rfl 25 _ _ rfl (w.heap.size + 1) cz rfl rfl 25 zeroDk HB2.out (by rw [HSB.out]; exact sizeS) (by rw [HSB.out]; rfl) HO.out ?_)
      refine bodyPost_ret (results_one rfl _ _ (w.heap.size + 1) 25 cz (0, 0) _ rfl ?_ Tryd.underlying25 rfl (by rw [HSB.out]; exact sizeS)) rfl HFIN.out
      exact setRow_heap _ _ _ _ _ _ HB2.out
end Go.Proofs.YtbaahbpianingaaDoor
namespace Go.Proofs.YtbaahbpianingaaDoor
open Go Go.Proofs Go.RowKit
open Acc (Dk red five)
set_option maxHeartbeats 12800000
set_option maxRecDepth 100000
theorem dstep_16 (bad : Nat → Prop) (cs : Array Value) (s : Dk) (w : World) (hbad : ∀ g, bad g → g < w.heap.size) (h : StAv bad w cs s) (hok : OkSt s) (hz : Acc.stopF s = 0) (hop : Acc.opF s = 16) : Calls Tryd.prog 46 #[.agg cs] w (SpRet bad w (Acc.stepF s)) := by
  obtain ⟨p, W0, a, m, ah⟩ := ahead hok hz
  rw [stepF_go hz, hop, ah.ad, ah.at_]
  rw [hop] at ah
  obtain ⟨r, hr⟩ : ∃ r, Acc.effF { s with at_ := (p : Int) + 1 } 16 (a : Int) = r := ⟨_, rfl⟩
  rw [hr]
  have HR := Lib.hid hr
  have HBAD := Lib.hid hbad
  have HOK := Lib.hid hok
  have HAH := Lib.hid ah
  have HH := Lib.hid h
  have hp100 := ah.p100
  have hw0 := ah.w0
  have hw1 := ah.w1
  have halt := ah.alt
  have fA := Acc.five_iff.1 hok.ok.a
  have fQ := Acc.five_iff.1 hok.ok.q
  have fX := Acc.five_iff.1 hok.ok.x
  have fM := Acc.five_iff.1 ah.m5
  have hin1 : inB W0 0 19999 = true := by unfold inB; simp; omega
  have hin2 : inB (a : Int) 0 99 = true := by unfold inB; simp; omega
  have HOPQ := Lib.hid ah.op
  have HSG := Lib.hid (fun W => Signed_c s.a W hok.ok.a)
  have hsg : (strOfNums (Acc.signed s.a)).size ≤ 6 := by rw [strOfNums_size]; exact signed_len hok.ok.a
  have hwm : Acc.wordAt { s with at_ := (p : Int) + 1 } (a : Int) = m := by show s.words[((a : Nat) : Int).toNat]?.getD 0 = m; rw [Int.toNat_natCast]; exact ah.mv
  have HWM := Lib.hid hwm
  clear hwm
  clear hr hz hop hbad h
  go_enter Tryd.func46, Tryd.ntmps46
  go_upto_region 0 with (fail)
  go_cut [1, 2] (fun s1 s2 wx => s1 = .pointer (some ⟨w.heap.size, 0, none⟩) ∧ s2 = .pointer (some ⟨w.heap.size + 1, 0, none⟩) ∧ Sp bad w wx s cs)
  case first =>
      go_wp2_with (refine wpList_allocS rfl rfl ?_)
      go_meet
      exact ⟨rfl, by simp, Sp.mk0 HH.out⟩
  obtain ⟨rfl, rfl, ht⟩ := hcut
  obtain ⟨wa, rfl⟩ : ∃ wa : World, wa = wc := ⟨_, rfl⟩
  have HT := Lib.hid ht
  have hlta := ht.lt
  have kAt : wa.cell? ⟨w.heap.size, 100, none⟩ = some (.int .i64 (p : Int)) := (ht.cell 100).trans (by rw [ht.is.at_, ah.at_])
  have kW : wa.cell? ⟨w.heap.size, p, none⟩ = some (.int .i64 W0) := (ht.cell p).trans (by rw [ht.is.words p hp100, ah.wp])
  have kX : wa.cell? ⟨w.heap.size, 103, none⟩ = some (.int .i64 s.x) := (ht.cell 103).trans ht.is.x
  have kM : wa.cell? ⟨w.heap.size, a, none⟩ = some (.int .i64 m) := (ht.cell a).trans (by rw [ht.is.words a halt, ah.mv])
  have kA : wa.cell? ⟨w.heap.size, 101, none⟩ = some (.int .i64 s.a) := (ht.cell 101).trans ht.is.a
  have zAt := ht.frozen 100
  have hpne : ((p : Int) == 100) = false := by simp; omega
  clear ht
  go_upto_region 5 with (fail)
  go_cut [4] (fun s4 wx => s4 = .int .i64 16 ∧ wa = wx)
  case first =>
      go_wp2_with fail
      go_meet
      exact ⟨by rw [HOPQ.out], rfl⟩
  obtain ⟨rfl, rfl⟩ := hcut
  go_upto_region 9 with (go_at_call 22; refine (In_c _ _ _ _).mono ?_; rintro e w' ⟨rfl, rfl⟩; rw [hin1])
  go_upto_if 40 with (fail)
  go_cut [5] (fun s5 wx => s5 = .int .i64 (a : Int) ∧ wa = wx)
  case first =>
      by_cases hi : 10000 ≤ W0
      · have e1 : W0 % 100 + s.x = (a : Int) := HAH.out.adhi hi
        go_wp2_with fail
        go_meet
        exact ⟨by first | rfl | rw [e1], rfl⟩
      · have e1 : W0 % 100 = (a : Int) := HAH.out.adlo (by omega)
        go_wp2_with fail
        go_meet
        exact ⟨by first | rfl | rw [e1], rfl⟩
  obtain ⟨rfl, rfl⟩ := hcut
  generalize hgs : strOfNums (Acc.signed s.a) = SG at *
  have HGS := Lib.hid hgs
  clear hgs
  go_upto_region 26 with (first | (go_at_call 22; refine (In_c _ _ _ _).mono ?_; rintro e w' ⟨rfl, rfl⟩; rw [hin2]) | (go_at_call 72; refine (HSG.out _).mono ?_; rintro e w1 ⟨rfl, hx1⟩; have HT1 := Lib.hid (HT.out.ext hx1); have hlt1 := HT1.out.lt; have kAt1 := (HT1.out.cell 100).trans (HT1.out.is.at_.trans (by rw [HAH.out.at_])); have zAt1 := HT1.out.frozen 100; have kO1 := HT1.out.cell 106; clear hx1 kAt kW kX kM kA zAt))
  refine wp_world (fun wx => Sp bad w wx { s with at_ := (p : Int) + 1 } (cs.setIfInBounds 100 (.int .i64 ((p : Int) + 1)))) (HT1.out.set (fun F h => at_set h (n := (p : Int) + 1) ⟨by omega, by omega⟩)) ?_
  intro w2 hp2
  have hlt2 := hp2.lt
  have HP2 := Lib.hid hp2
  clear hp2 kAt1 zAt1 kO1
  have HA5 := Lib.hid HOK.out.ok.a
  go_wp2_with fail
  go_loopw [13] (fun t wx => ∃ j : Nat, ∃ cx, j ≤ a ∧ t = .int .i64 j ∧ Sp bad w wx { { s with at_ := (p : Int) + 1 } with a := Acc.itD j s.a } cx) (fun t _ => a - (intOf t).toNat)
  case atStart => exact ⟨0, _, Nat.zero_le _, rfl, HP2.out⟩
  case round =>
    obtain ⟨j, cx, hj, rfl, hpr⟩ := hrel
    have hltr := hpr.lt
    have HPR := Lib.hid hpr
    have krA : wr.cell? ⟨w.heap.size, 101, none⟩ = some (.int .i64 (Acc.itD j s.a)) := (hpr.cell 101).trans hpr.is.a
    have zrA := hpr.frozen 101
    have hy5 := Acc.five_iff.1 (itD_five j s.a HA5.out)
    have HIT := Lib.hid (itD_succ j s.a)
    have HI5 := Lib.hid (itD_five (j + 1) s.a HA5.out)
    clear hpr
    by_cases hlt : j < a
    · generalize Acc.itD j s.a = y at *
      go_wp2_with (go_at_call 74; refine (divided_c _ _ _ ⟨by omega, by omega⟩ ⟨by omega, by omega⟩ (by decide)).mono ?_; rintro e w' ⟨rfl, rfl⟩; rw [← HIT.out])
      refine ⟨⟨j + 1, _, by omega, by go_num, HPR.out.set (fun F h => a_set h (n := Acc.itD (j + 1) s.a) (five_i64 HI5.out))⟩, by simp [intOf]; omega⟩
    · obtain rfl : j = a := by omega
      clear krA zrA hy5 HIT HI5
      go_upto_region 86 with ((go_at_call 42; refine (five_c _ _).mono ?_; rintro e w' ⟨rfl, rfl⟩; rw [show five 0 = true from rfl]))
      refine wp_world (fun wx => Sp bad w wx { { s with at_ := (p : Int) + 1 } with a := Acc.itD j s.a } cx) HPR.out ?_
      intro wf hm
      have HEQ : Hid ({ { s with at_ := (p : Int) + 1 } with a := Acc.itD j s.a } = r) := Lib.hid (by
          rw [← HR.out, eff16_eq (s := { s with at_ := (p : Int) + 1 }) j HA5.out])
      have HB1 := Lib.hid hm.b1
      have HB2 := Lib.hid hm.b2
      have HSB := Lib.hid hm.is.size
      have HO := Lib.hid (dk_one hm.is)
      have hltf := hm.lt
      have HFIN := Lib.hid hm.fin
      rw [HEQ.out] at HFIN
      clear hm
      obtain ⟨cz, hcz⟩ : ∃ cz, cz = cx := ⟨_, rfl⟩
      rw [← hcz] at HB1 HSB HO HFIN
      clear hcz
      go_wp2_with (first | refine wpList_load_row rfl 25 _ rfl w.heap.size rfl 25 cz (0, 0) _ HB1.out Tryd.underlying25 rfl (by rw [HSB.out]; exact sizeS) ?_ | refine wpList_store_row rfl 25 _ _ rfl (w.heap.size + 1) cz rfl rfl 25 zeroDk HB2.out (by rw [HSB.out]; exact sizeS) (by rw [HSB.out]; rfl) HO.out ?_)
      refine bodyPost_ret (results_one rfl _ _ (w.heap.size + 1) 25 cz (0, 0) _ rfl ?_ Tryd.underlying25 rfl (by rw [HSB.out]; exact sizeS)) rfl HFIN.out
      exact setRow_heap _ _ _ _ _ _ HB2.out
end Go.Proofs.YtbaahbpianingaaDoor
