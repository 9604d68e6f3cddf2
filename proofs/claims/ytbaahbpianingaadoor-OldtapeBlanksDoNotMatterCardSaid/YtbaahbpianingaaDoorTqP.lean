import Derived.Test.YtbaahbpianingaaDoorTqN
import Derived.Test.YtbaahbpianingaaDoorMg30
namespace Go.Proofs.YtbaahbpianingaaDoor
open Go Go.Proofs Go.RowKit
open Tape (Rule Ts)
set_option maxHeartbeats 12800000
set_option maxRecDepth 100000
theorem blanksT_c (cs : Array Value) (s : Ts) (n : Int) (w : World) (h : TsIs w cs s) (hn : I64 n) (ht : TabT w) : Calls Tryd.prog 11 #[.agg cs, .int .i64 n] w (BRet w true) := by
  have HT := Lib.hid ht
  have HH := Lib.hid h
  obtain ⟨uc, ui, huf⟩ : ∃ uc ui, faultT s = (uc, ui) := ⟨_, _, rfl⟩
  have HUF := Lib.hid huf
  obtain ⟨m, hm⟩ : ∃ m, m = s.cells.length := ⟨_, rfl⟩
  have HM := Lib.hid hm
  have HNW := Lib.hid hn
  clear ht h huf hm hn
  go_enter Tryd.func11, Tryd.ntmps11
  go_upto_region 0 with (fail)
  go_cut [2, 4] (fun s2 s4 wx => s2 = .pointer (some ⟨w.heap.size, 0, none⟩) ∧ s4 = .bool false ∧ VarT wx w.heap.size cs s ∧ Ext w wx)
  case first =>
    go_wp2_with fail
    go_meet
    exact ⟨rfl, rfl, ⟨heap_alloc_new w _, HH.out.ext ((Ext.refl w).alloc _)⟩, (Ext.refl w).alloc _⟩
  obtain ⟨rfl, rfl, hv, hx⟩ := hcut
  obtain ⟨g2, hg2⟩ : ∃ g2, w.heap.size = g2 := ⟨_, rfl⟩
  obtain ⟨cs2, hcs2⟩ : ∃ cs2, cs = cs2 := ⟨_, rfl⟩
  rw [hg2, hcs2] at hv
  rw [hg2]
  clear HH hg2 hcs2
  obtain ⟨v1, rfl⟩ : ∃ v1 : World, v1 = wc := ⟨_, rfl⟩
  have HX := Lib.hid hx
  have HV2 := Lib.hid hv
  have HC2 := Lib.hid hv.st.size
  clear hv hx
  go_upto_region 3 with (go_at_call 31; refine (taped_c _ (HT.out.ext HX.out)).mono ?_; rintro e w0 ⟨rfl, hx0⟩; have HX0 := Lib.hid hx0; clear hx0)
  have hx := HX0.out
  have HV2 := Lib.hid (HV2.out.ext hx)
  have HX := Lib.hid (HX.out.trans hx)
  clear hx
  obtain ⟨A1, c1, e1, hl1, hm1, -, sl1⟩ := HV2.out.st.cells
  rw [← HM.out] at e1 hl1
  have HE1 := Lib.hid e1
  have HS1 := Lib.hid sl1
  have hmm := Nat.le_trans hl1 hm1
  unfold maxLen at hmm
  clear hl1 hm1 sl1 e1
  go_cut [36] (fun sa wx => ∃ b : Bool, sa = .bool b ∧ Hid (b = false → uc = 0 ∧ (0 ≤ n ∧ n ≤ 198) ∧ (m : Int) + n + 1 ≤ 200) ∧ Ext w0 wx)
  case first =>
    have hr := TapeFault_c cs2 s w0 HV2.out.st
    rw [HUF.out] at hr
    have HR := Lib.hid hr
    clear hr
    have hfl := fld0 uc ui
    go_wp2_with (refine wpList_load_row rfl 54 _ rfl g2 rfl 54 cs2 (0, 0) _ HV2.out.g Tryd.underlying54 rfl (by rw [HC2.out]; exact sizeQ) ?_)
    refine HR.out.mono ?_
    rintro e w1 ⟨rfl, hx1⟩
    have k1 : w1.cell? ⟨g2, 1, none⟩ = some (.slice A1 m c1) := (blk_cell (ext_heap hx1 HV2.out.g) 1).trans HE1.out
    have HX1 := Lib.hid hx1
    clear hx1
    simp only [fAgg]
    by_cases q1 : uc = 0
    rotate_left
    · have m1 : (uc != 0) = true := by simpa using q1
      go_wp2_with fail
      go_meet
      exact ⟨true, rfl, Lib.hid (fun h => by cases h), HX1.out⟩
    have HQ1 := Lib.hid q1
    have hmb : m ≤ 200 := by
      have hf0 : faultT s = (0, 0) := by
        by_cases q : faultT s = (0, 0)
        · exact q
        · exact absurd (by rw [HUF.out]; exact q1) (faultT_code q)
      have := (okt_of hf0).1.len; have := HM.out; omega
    have m1 : (uc != 0) = false := by simpa using q1
    clear q1
    cases q2 : inB n 0 198
    · go_wp2_with (go_at_call 22; refine (In_c _ _ _ _).mono ?_; rintro e w' ⟨rfl, rfl⟩; rw [q2])
      go_meet
      exact ⟨true, rfl, Lib.hid (fun h => by cases h), HX1.out⟩
    have hn2 : 0 ≤ n ∧ n ≤ 198 := by unfold inB at q2; simpa using q2
    have HN2 := Lib.hid hn2
    by_cases q3 : (m : Int) + n + 1 > 200
    · have w1 : IntKind.i64.wrap ((m : Int) + n) = (m : Int) + n := IntWalk.i64_in _ (by omega)
      have w2 : IntKind.i64.wrap ((m : Int) + n + 1) = (m : Int) + n + 1 := IntWalk.i64_in _ (by omega)
      have d3 : decide ((m : Int) + n + 1 > 200) = true := decide_eq_true q3
      clear hn2 q3
      go_wp2_with (go_at_call 22; refine (In_c _ _ _ _).mono ?_; rintro e w' ⟨rfl, rfl⟩; rw [q2])
      go_meet
      exact ⟨true, by first | rfl | simp [d3], Lib.hid (fun h => by cases h), HX1.out⟩
    · have w1 : IntKind.i64.wrap ((m : Int) + n) = (m : Int) + n := IntWalk.i64_in _ (by omega)
      have w2 : IntKind.i64.wrap ((m : Int) + n + 1) = (m : Int) + n + 1 := IntWalk.i64_in _ (by omega)
      have d3 : decide ((m : Int) + n + 1 > 200) = false := decide_eq_false q3
      have HQ3 : Hid ((m : Int) + n + 1 ≤ 200) := Lib.hid (by omega)
      clear hn2 q3
      go_wp2_with (go_at_call 22; refine (In_c _ _ _ _).mono ?_; rintro e w' ⟨rfl, rfl⟩; rw [q2])
      go_meet
      exact ⟨false, by first | rfl | simp [d3], Lib.hid (fun _ => ⟨HQ1.out, HN2.out, HQ3.out⟩), HX1.out⟩
  obtain ⟨b36, rfl, hb36, hx⟩ := hcut
  obtain ⟨v2, rfl⟩ : ∃ v2 : World, v2 = wc := ⟨_, rfl⟩
  have HV2 := Lib.hid (HV2.out.ext hx)
  have HX := Lib.hid (HX.out.trans hx)
  clear hx
  cases b36 with
  | true =>
    go_wp2_with fail
    go_ret
    exact ⟨rfl, HX.out⟩
  | false =>
  obtain ⟨hz, hn2, hm2⟩ := hb36.out rfl
  subst hz
  have hf0 : faultT s = (0, 0) := by
    by_cases q : faultT s = (0, 0)
    · exact q
    · exact absurd (by rw [HUF.out]) (faultT_code q)
  obtain ⟨N, rfl⟩ : ∃ N : Nat, n = N := ⟨n.toNat, by omega⟩
  have HF0 := Lib.hid hf0
  have HOK := Lib.hid (okt_of hf0).1
  have hat := HOK.out.at_
  have HB := Lib.hid (show m + N + 1 ≤ 200 from by omega)
  have HN6 := Lib.hid (show 0 ≤ (N : Int) ∧ (N : Int) ≤ 60000 from by omega)
  have hmb : m ≤ 200 := by omega
  have HATB : Hid (0 ≤ s.at_ ∧ s.at_ ≤ 200) := Lib.hid (by have := HM.out; omega)
  clear hf0 hb36 hn2 hm2 hat
  have HSH : Hid (faultT (Tape.shift s) = (0, 0)) := Lib.hid (faultT_of_ok (Tape.shift_ok HOK.out (by have := HB.out; have := HM.out; omega)) (show faultR s.rules = (0, 0) from faultT_rules HF0.out))
  have HAL := Lib.hid (Tape.alike_run N HOK.out (.inr rfl : Tape.Alike s (Tape.shift s)) (by have := HB.out; have := HM.out; omega))
  have HRG : Hid (runGT s (N : Int) = ((Tape.runF N s).1, ((Tape.runF N s).2 : Int), (0, 0))) := Lib.hid (by unfold runGT; rw [if_pos HF0.out, if_pos HN6.out, Int.toNat_natCast])
  have HRH : Hid (runGT (Tape.shift s) (N : Int) = ((Tape.runF N (Tape.shift s)).1, ((Tape.runF N s).2 : Int), (0, 0))) := Lib.hid (by unfold runGT; rw [if_pos HSH.out, if_pos HN6.out, Int.toNat_natCast, HAL.out.2])
  obtain ⟨Ta, hTa⟩ : ∃ Ta, (Tape.runF N s).1 = Ta := ⟨_, rfl⟩
  obtain ⟨Tb, hTb⟩ : ∃ Tb, (Tape.runF N (Tape.shift s)).1 = Tb := ⟨_, rfl⟩
  obtain ⟨K, hK⟩ : ∃ K, (Tape.runF N s).2 = K := ⟨_, rfl⟩
  have HST := Lib.hid (Tape.alike_stop HAL.out.1)
  have HFA := Lib.hid (faultT_run N HF0.out)
  have HFB := Lib.hid (faultT_run N HSH.out)
  rw [hTa, hTb] at HST
  rw [hTa] at HFA
  rw [hTb] at HFB
  rw [hTa, hK] at HRG
  rw [hTb, hK] at HRH
  clear hTa hTb hK HAL
  obtain ⟨i0, hi, hz0, hz1, hz2⟩ := info_parts infoI
  have HI := Lib.hid hi
  have HZ0 := Lib.hid hz0
  have HZ1 := Lib.hid hz1
  have HZ2 := Lib.hid hz2
  clear hi hz0 hz1 hz2
  obtain ⟨B, hB⟩ : ∃ B, B = v2.heap.size := ⟨_, rfl⟩
  have HBS := Lib.hid hB
  have HVB := Lib.hid HV2.out
  have HXW := Lib.hid HX.out
  clear hB
  go_upto_region 7 with (at_builtin; refine wpList_append_sl rfl _ _ 26 rfl B 3 i0 (.int .i64 0) 1 8 Tryd.underlying26 HI.out HZ0.out HZ1.out HZ2.out rfl (by decide) (.slice none 0 0) 0 [] rfl (World.ownsRow_nil _ _ _ _) (some ⟨v2.heap.size, 0, none⟩) 1 1 [.int .i64 0] rfl (slc_new v2 [.int .i64 0] 3) rfl (by simp [Value.oneCell']) (by unfold maxLen; omega) (by omega) (by have := HBS.out; simp; omega) ?_; intro v3 w3 ho3 hg3 _h3; obtain ⟨A5, c5, rfl, -, -, -, -⟩ := own_sl5 ho3; have HO5 := Lib.hid ho3; have HG5 := Lib.hid hg3; clear ho3 hg3 _h3)
  have hx : Ext v2 w3 := ext_grown ((Ext.refl v2).alloc _) HG5.out (fun g hg => by simp [Value.ownBlock] at hg)
  have HXB := Lib.hid hx
  clear HG5
  have HV2 := Lib.hid (HV2.out.ext hx)
  have HX := Lib.hid (HX.out.trans hx)
  have HBW : Hid (B ≤ w3.heap.size) := Lib.hid (by have := HBS.out; have := hx.size; omega)
  clear hx
  go_cut [6] (fun s6 wx => s6 = .pointer (some ⟨w3.heap.size, 0, none⟩) ∧ wx.heap[w3.heap.size]? = some (.cells cs2 54 (0, 0)) ∧ Ext w3 wx)
  case first =>
    have HZ := Lib.hid (heap_alloc_new w3 (.cells zeroTs 54))
    have HO := Lib.hid (tsq_one HV2.out.st)
    go_wp2_with (first | refine wpList_load_row rfl 54 _ rfl g2 rfl 54 cs2 (0, 0) _ HV2.out.g Tryd.underlying54 rfl (by rw [HC2.out]; exact sizeQ) ?_ | refine wpList_allocQ rfl rfl ?_ | refine wpList_store_row rfl 54 _ _ rfl w3.heap.size cs2 rfl rfl 54 zeroTs HZ.out (by rw [HC2.out]; exact sizeQ) (by rw [HC2.out]; rfl) HO.out ?_)
    go_meet
    exact ⟨rfl, setRow_heap _ _ _ _ _ _ HZ.out, ((Ext.refl w3).alloc _).setRow (Nat.le_refl _) _⟩
  obtain ⟨rfl, hb6, hx⟩ := hcut
  obtain ⟨g6, hg6⟩ : ∃ g6, w3.heap.size = g6 := ⟨_, rfl⟩
  rw [hg6] at hb6 ⊢
  have HG6 : Hid (B ≤ g6) := Lib.hid (by have := HBW.out; omega)
  obtain ⟨v3, rfl⟩ : ∃ v3 : World, v3 = wc := ⟨_, rfl⟩
  have HO5 := Lib.hid (town_ext HO5.out hx)
  have HBW : Hid (B ≤ v3.heap.size) := Lib.hid (by have := HBW.out; have := hx.size; omega)
  have HV2 := Lib.hid (HV2.out.ext hx)
  have HX := Lib.hid (HX.out.trans hx)
  have HB6 := Lib.hid hb6
  have HXB := Lib.hid (HXB.out.trans hx)
  clear hb6 hx hg6
  have k1 : v3.cell? ⟨g2, 1, none⟩ = some (.slice A1 m c1) := (blk_cell HV2.out.g 1).trans HE1.out
  have HSL := Lib.hid (HV2.out.st.sl HE1.out)
  have hlt6 : g6 < v3.heap.size := (Array.getElem?_eq_some_iff.1 HB6.out).1
  go_upto_region 9 with (at_builtin; refine wpList_append_sl rfl _ _ 26 rfl B 3 i0 (.int .i64 0) 1 8 Tryd.underlying26 HI.out HZ0.out HZ1.out HZ2.out rfl (by decide) (.slice A5 1 c5) 1 [.int .i64 0] rfl HO5.out A1 m c1 (s.cells.map (Value.int .i64)) rfl HSL.out (by rw [List.length_map, ← HM.out, Nat.mul_one]) ints_cell (by unfold maxLen; omega) (by omega) HBW.out ?_; intro v8 w8 ho8 hg8 _h8; obtain ⟨A8, c8, rfl, -, -, -, -⟩ := own_sl5 ho8; have HO8 := Lib.hid ho8; have HG8 := Lib.hid hg8; have hb8 := (hg8.block g6 hlt6 (fun e => own_ne HO5.out HB6.out (by decide) e.symm)).trans HB6.out; have k61 : w8.cell? ⟨g6, 1, none⟩ = some (.slice A1 m c1) := (blk_cell hb8 1).trans HE1.out; have z61 := blk_frozen hb8 1; have HB8 := Lib.hid hb8; have hlt8 := (Array.getElem?_eq_some_iff.1 hb8).1; clear ho8 hg8 _h8 hb8)
  have hxb : Ext v2 w8 := ext_grown HXB.out HG8.out (fun g hg => by have := (own_lt HO5.out hg).1; have := HBS.out; omega)
  refine wp_worldT (fun wx => wx.heap[g6]? = some (.cells (cs2.setIfInBounds 1 (.slice A8 (1 + m) c8)) 54 (0, 0)) ∧ wx.ownsRow B 3 1 (.slice A8 (1 + m) c8) (1 + m) ([.int .i64 0] ++ s.cells.map (Value.int .i64)) ∧ Ext v2 wx) ⟨heap_set_self HB8.out 1 _, own_keep HO8.out (fun g hg => Below.heap_setCell _ _ _ _ (fun e => own_ne HO8.out HB8.out (by decide) (by rw [hg, e]))), hxb.setCell (p := ⟨g6, 1, none⟩) (by have := HG6.out; have := HBS.out; show v2.heap.size ≤ g6; omega) _⟩ ?_
  rintro w9 ⟨hb9, ho9, hx⟩
  have HB9 := Lib.hid hb9
  have HO9 := Lib.hid ho9
  have HX9 := Lib.hid hx
  have HV29 := Lib.hid (HVB.out.ext hx)
  have k2 : w9.cell? ⟨g2, 2, none⟩ = some (.int .i64 s.at_) := (blk_cell HV29.out.g 2).trans HV29.out.st.at_
  have hlt9 := (Array.getElem?_eq_some_iff.1 hb9).1
  have k62 : w9.cell? ⟨g6, 2, none⟩ = some (.int .i64 s.at_) := (blk_cell hb9 2).trans (by rw [getD_set, if_neg (by decide)]; exact HV29.out.st.at_)
  have z62 := blk_frozen hb9 2
  have wat : IntKind.i64.wrap (s.at_ + 1) = s.at_ + 1 := IntWalk.i64_in _ (by have := HATB.out; omega)
  clear hb9 ho9 hx hxb k61 z61 hlt8 k1 hlt6
  go_upto_region 10 with (fail)
  refine wp_worldT (fun wx => ∃ cs6, VarT wx g6 cs6 (Tape.shift s) ∧ Ext v2 wx) ⟨(cs2.setIfInBounds 1 (.slice A8 (1 + m) c8)).setIfInBounds 2 (.int .i64 (s.at_ + 1)), ⟨heap_set_self HB9.out 2 _, ?_⟩, HX9.out.setCell (p := ⟨g6, 2, none⟩) (by have := HG6.out; have := HBS.out; show v2.heap.size ≤ g6; omega) _⟩ ?_
  · have hx9 : Ext v2 (w9.setCell ⟨g6, 2, none⟩ (.int .i64 (s.at_ + 1))) := HX9.out.setCell (p := ⟨g6, 2, none⟩) (by have := HG6.out; have := HBS.out; show v2.heap.size ≤ g6; omega) _
    have hi := HVB.out.st.ext hx9
    have ho := own_keep (w' := w9.setCell ⟨g6, 2, none⟩ (.int .i64 (s.at_ + 1))) HO9.out (fun g hg => Below.heap_setCell _ _ _ _ (fun e => own_ne HO9.out HB9.out (by decide) (by rw [hg, e])))
    have hlen : 1 + m = (0 :: s.cells).length := by rw [List.length_cons, ← HM.out, Nat.add_comm]
    have ho2 : (w9.setCell ⟨g6, 2, none⟩ (.int .i64 (s.at_ + 1))).ownsRow B 3 1 (.slice A8 (1 + m) c8) (0 :: s.cells).length ((0 :: s.cells).map (Value.int .i64)) := by rw [← hlen]; exact ho
    have h1 : TsIs (w9.setCell ⟨g6, 2, none⟩ (.int .i64 (s.at_ + 1))) (cs2.setIfInBounds 1 (.slice A8 (1 + m) c8)) { s with cells := 0 :: s.cells } :=
      tsIs_set hi 1 _ _ hi.rules (own_at ho2 fun _ _ => rfl) rfl rfl rfl { hi.wf with cells := (okt_wf (Tape.shift_ok HOK.out (by have := HB.out; have := HM.out; omega))).cells }
    exact at_setT h1 (i64_small (by have := HATB.out; omega) (by have := HATB.out; omega))
  rintro w10 ⟨cs6, hv6, hx⟩
  have HV2 := Lib.hid (HVB.out.ext hx)
  have HX := Lib.hid (HXW.out.trans hx)
  have HV6 := Lib.hid hv6
  have HC6 := Lib.hid hv6.st.size
  clear hv6 hx k2 k62 z62 hlt9 HV29 HB9 HO9 HX9 HB8 HO8 HG8 HB6 HO5 HSL HXB HVB HXW HBW wat
  go_upto_region 10 with (fail)
  go_cut [7, 8, 9] (fun sa sn sb wx => ∃ g cs, sa = .pointer (some ⟨g, 0, none⟩) ∧ sn = .int .i64 (K : Int) ∧ sb = .pointer (some ⟨g + 1, 0, none⟩) ∧ VarT wx g cs Ta ∧ wx.heap[g + 1]? = some (.cells #[.int .i64 0, .int .i64 0] 28 (0, 0)) ∧ Ext w10 wx)
  case first =>
    have HR := Lib.hid (runT_all cs2 s (N : Int) w10 HV2.out.st)
    go_wp2_with (refine wpList_load_row rfl 54 _ rfl g2 rfl 54 cs2 (0, 0) _ HV2.out.g Tryd.underlying54 rfl (by rw [HC2.out]; exact sizeQ) ?_)
    refine HR.out.mono ?_
    rw [HRG.out]
    rintro e w1 ⟨cs', rfl, hst, hx1⟩
    have HA := Lib.hid (asgT_mk w1 hst.st (0) (0))
    have HS2 := Lib.hid hst.st.size
    have HO := Lib.hid (tsq_one hst.st)
    have HX1 := Lib.hid hx1
    have HZ := Lib.hid (heap_alloc2_old w1 (.cells zeroTs 54) (.cells #[.int .i64 0, .int .i64 0] 28))
    have HF := Lib.hid ((setRow_other _ w1.heap.size (w1.heap.size + 1) cs' (by omega)).trans (heap_alloc2_new w1 (.cells zeroTs 54) (.cells #[.int .i64 0, .int .i64 0] 28)))
    clear hst hx1
    simp only [fAgg]
    go_wp2_with (first | refine wpList_allocQ rfl rfl ?_ | refine wpList_store_row rfl 54 _ _ rfl w1.heap.size cs' rfl rfl 54 zeroTs HZ.out (by rw [HS2.out]; exact sizeQ) (by rw [HS2.out]; rfl) HO.out ?_ | refine wpList_store_row rfl 28 _ _ rfl (w1.heap.size + 1) #[.int .i64 0, .int .i64 0] rfl rfl 28 _ HF.out sizeF rfl (by kernel_rfl) ?_)
    go_meet
    exact ⟨_, cs', rfl, rfl, rfl, HA.out.v, HA.out.f, HX1.out.trans HA.out.x⟩
  obtain ⟨g7, cs7, rfl, rfl, rfl, hv, hf, hx⟩ := hcut
  obtain ⟨v4, rfl⟩ : ∃ v4 : World, v4 = wc := ⟨_, rfl⟩
  have HV2 := Lib.hid (HV2.out.ext hx)
  have HV6 := Lib.hid (HV6.out.ext hx)
  have HX := Lib.hid (HX.out.trans hx)
  have HV7 := Lib.hid hv
  have HF9 := Lib.hid hf
  have HC7 := Lib.hid hv.st.size
  clear hv hf hx
  go_upto_region 11 with (fail)
  go_cut [10, 11, 12] (fun sa sn sb wx => ∃ g cs, sa = .pointer (some ⟨g, 0, none⟩) ∧ sn = .int .i64 (K : Int) ∧ sb = .pointer (some ⟨g + 1, 0, none⟩) ∧ VarT wx g cs Tb ∧ wx.heap[g + 1]? = some (.cells #[.int .i64 0, .int .i64 0] 28 (0, 0)) ∧ Ext v4 wx)
  case first =>
    have HR := Lib.hid (runT_all cs6 (Tape.shift s) (N : Int) v4 HV6.out.st)
    go_wp2_with (refine wpList_load_row rfl 54 _ rfl g6 rfl 54 cs6 (0, 0) _ HV6.out.g Tryd.underlying54 rfl (by rw [HC6.out]; exact sizeQ) ?_)
    refine HR.out.mono ?_
    rw [HRH.out]
    rintro e w1 ⟨cs', rfl, hst, hx1⟩
    have HA := Lib.hid (asgT_mk w1 hst.st (0) (0))
    have HS2 := Lib.hid hst.st.size
    have HO := Lib.hid (tsq_one hst.st)
    have HX1 := Lib.hid hx1
    have HZ := Lib.hid (heap_alloc2_old w1 (.cells zeroTs 54) (.cells #[.int .i64 0, .int .i64 0] 28))
    have HF := Lib.hid ((setRow_other _ w1.heap.size (w1.heap.size + 1) cs' (by omega)).trans (heap_alloc2_new w1 (.cells zeroTs 54) (.cells #[.int .i64 0, .int .i64 0] 28)))
    clear hst hx1
    simp only [fAgg]
    go_wp2_with (first | refine wpList_allocQ rfl rfl ?_ | refine wpList_store_row rfl 54 _ _ rfl w1.heap.size cs' rfl rfl 54 zeroTs HZ.out (by rw [HS2.out]; exact sizeQ) (by rw [HS2.out]; rfl) HO.out ?_ | refine wpList_store_row rfl 28 _ _ rfl (w1.heap.size + 1) #[.int .i64 0, .int .i64 0] rfl rfl 28 _ HF.out sizeF rfl (by kernel_rfl) ?_)
    go_meet
    exact ⟨_, cs', rfl, rfl, rfl, HA.out.v, HA.out.f, HX1.out.trans HA.out.x⟩
  obtain ⟨g10, cs10, rfl, rfl, rfl, hv, hf, hx⟩ := hcut
  obtain ⟨v5, rfl⟩ : ∃ v5 : World, v5 = wc := ⟨_, rfl⟩
  have HV2 := Lib.hid (HV2.out.ext hx)
  have HV6 := Lib.hid (HV6.out.ext hx)
  have HV7 := Lib.hid (HV7.out.ext hx)
  have HF9 := Lib.hid (ext_heap hx HF9.out)
  have HX := Lib.hid (HX.out.trans hx)
  have HV10 := Lib.hid hv
  have HF12 := Lib.hid hf
  have HC10 := Lib.hid hv.st.size
  clear hv hf hx
  obtain ⟨J, hJ⟩ : ∃ J, Tape.inked Ta.cells = J := ⟨_, rfl⟩
  have HTA : Hid (tapeG Ta = (J, (0, 0))) := Lib.hid (by unfold tapeG; rw [if_pos HFA.out, hJ])
  have HTB : Hid (tapeG Tb = (J, (0, 0))) := Lib.hid (by unfold tapeG; rw [if_pos HFB.out, HST.out.2.2, hJ])
  clear hJ
  obtain ⟨jl, hjl⟩ : ∃ jl, jl = J.length := ⟨_, rfl⟩
  have HJL := Lib.hid hjl
  clear hjl
  go_upto_region 12 with (fail)
  go_cut [13, 14] (fun sa sb wx => ∃ A c g, sa = .slice A jl c ∧ J.length ≤ maxLen ∧ Sl wx .i64 A J ∧ sb = .pointer (some ⟨g, 0, none⟩) ∧ wx.heap[g]? = some (.cells #[.int .i64 0, .int .i64 0] 28 (0, 0)) ∧ Ext v5 wx)
  case first =>
    have hr := tape_all cs7 Ta v5 HV7.out.st
    rw [HTA.out] at hr
    have HR := Lib.hid hr
    clear hr
    go_wp2_with (refine wpList_load_row rfl 54 _ rfl g7 rfl 54 cs7 (0, 0) _ HV7.out.g Tryd.underlying54 rfl (by rw [HC7.out]; exact sizeQ) ?_)
    refine HR.out.mono ?_
    rintro e w1 ⟨v, rfl, ho, hx1⟩
    obtain ⟨A, c, rfl, hlc, hcm, _, hsl⟩ := own_sl ho
    have HX1 := Lib.hid hx1
    have HSL := Lib.hid hsl
    have HLM := Lib.hid (Nat.le_trans hlc hcm)
    clear hx1 hsl ho hlc hcm
    simp only [fAgg]
    rw [show (J, (0, 0)).1.length = jl from HJL.out.symm]
    go_wp2_with fail
    go_meet
    exact ⟨A, c, _, rfl, HLM.out, Sl.ext HSL.out ((Ext.refl w1).alloc _), rfl, heap_alloc_new w1 _, HX1.out.trans ((Ext.refl w1).alloc _)⟩
  obtain ⟨A13, c13, g14, rfl, hjm13, hsl13, rfl, hf, hx⟩ := hcut
  obtain ⟨v6, rfl⟩ : ∃ v6 : World, v6 = wc := ⟨_, rfl⟩
  have HV2 := Lib.hid (HV2.out.ext hx)
  have HV6 := Lib.hid (HV6.out.ext hx)
  have HV7 := Lib.hid (HV7.out.ext hx)
  have HV10 := Lib.hid (HV10.out.ext hx)
  have HF9 := Lib.hid (ext_heap hx HF9.out)
  have HF12 := Lib.hid (ext_heap hx HF12.out)
  have HX := Lib.hid (HX.out.trans hx)
  have HF14 := Lib.hid hf
  have HSL13 := Lib.hid hsl13
  have HJM13 := Lib.hid hjm13
  clear hf hx hsl13 hjm13
  go_upto_region 13 with (fail)
  go_cut [15, 16] (fun sa sb wx => ∃ A c g, sa = .slice A jl c ∧ J.length ≤ maxLen ∧ Sl wx .i64 A J ∧ sb = .pointer (some ⟨g, 0, none⟩) ∧ wx.heap[g]? = some (.cells #[.int .i64 0, .int .i64 0] 28 (0, 0)) ∧ Ext v6 wx)
  case first =>
    have hr := tape_all cs10 Tb v6 HV10.out.st
    rw [HTB.out] at hr
    have HR := Lib.hid hr
    clear hr
    go_wp2_with (refine wpList_load_row rfl 54 _ rfl g10 rfl 54 cs10 (0, 0) _ HV10.out.g Tryd.underlying54 rfl (by rw [HC10.out]; exact sizeQ) ?_)
    refine HR.out.mono ?_
    rintro e w1 ⟨v, rfl, ho, hx1⟩
    obtain ⟨A, c, rfl, hlc, hcm, _, hsl⟩ := own_sl ho
    have HX1 := Lib.hid hx1
    have HSL := Lib.hid hsl
    have HLM := Lib.hid (Nat.le_trans hlc hcm)
    clear hx1 hsl ho hlc hcm
    simp only [fAgg]
    rw [show (J, (0, 0)).1.length = jl from HJL.out.symm]
    go_wp2_with fail
    go_meet
    exact ⟨A, c, _, rfl, HLM.out, Sl.ext HSL.out ((Ext.refl w1).alloc _), rfl, heap_alloc_new w1 _, HX1.out.trans ((Ext.refl w1).alloc _)⟩
  obtain ⟨A15, c15, g16, rfl, hjm15, hsl15, rfl, hf, hx⟩ := hcut
  obtain ⟨v7, rfl⟩ : ∃ v7 : World, v7 = wc := ⟨_, rfl⟩
  have HV2 := Lib.hid (HV2.out.ext hx)
  have HV6 := Lib.hid (HV6.out.ext hx)
  have HV7 := Lib.hid (HV7.out.ext hx)
  have HV10 := Lib.hid (HV10.out.ext hx)
  have HF9 := Lib.hid (ext_heap hx HF9.out)
  have HF12 := Lib.hid (ext_heap hx HF12.out)
  have HF14 := Lib.hid (ext_heap hx HF14.out)
  have HSL13 := Lib.hid (Sl.ext HSL13.out hx)
  have HX := Lib.hid (HX.out.trans hx)
  have HF16 := Lib.hid hf
  have HSL15 := Lib.hid hsl15
  have HJM15 := Lib.hid hjm15
  clear hf hx hsl15 hjm15
  have p0 : v7.cell? ⟨g7 + 1, 0, none⟩ = some (.int .i64 0) := blk_cell HF9.out 0
  have p1 : v7.cell? ⟨g10 + 1, 0, none⟩ = some (.int .i64 0) := blk_cell HF12.out 0
  have p2 : v7.cell? ⟨g14, 0, none⟩ = some (.int .i64 0) := blk_cell HF14.out 0
  have p3 : v7.cell? ⟨g16, 0, none⟩ = some (.int .i64 0) := blk_cell HF16.out 0
  have hst := HST.out
  obtain ⟨X, hX⟩ : ∃ X, Ta.stop = X := ⟨_, rfl⟩
  obtain ⟨Y, hY⟩ : ∃ Y, Ta.state = Y := ⟨_, rfl⟩
  have q0 : v7.cell? ⟨g7, 4, none⟩ = some (.int .i64 X) := (blk_cell HV7.out.g 4).trans (by rw [← hX]; exact HV7.out.st.stop)
  have q1 : v7.cell? ⟨g10, 4, none⟩ = some (.int .i64 X) := (blk_cell HV10.out.g 4).trans (by rw [← hX, ← hst.1]; exact HV10.out.st.stop)
  have q2 : v7.cell? ⟨g7, 3, none⟩ = some (.int .i64 Y) := (blk_cell HV7.out.g 3).trans (by rw [← hY]; exact HV7.out.st.state)
  have q3 : v7.cell? ⟨g10, 3, none⟩ = some (.int .i64 Y) := (blk_cell HV10.out.g 3).trans (by rw [← hY, ← hst.2.1]; exact HV10.out.st.state)
  clear hst hX hY
  have HIN := Lib.hid (Ints_c A13 A15 J J c13 c15 v7 HJM13.out HJM13.out HSL13.out HSL15.out)
  rw [← HJL.out] at HIN
  go_wp2_with (go_at_call 26; refine HIN.out.mono ?_; rintro e w' ⟨rfl, n, rfl⟩; rw [show decide (J = J) = true from by simp])
  go_ret
  exact ⟨rfl, HX.out.drewN _⟩
end Go.Proofs.YtbaahbpianingaaDoor
