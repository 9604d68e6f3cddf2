import Derived.Test.YtbaahbpianingaaDoorAddD
namespace Go.Proofs.YtbaahbpianingaaDoor
open Go Go.Proofs Go.RowKit
open Acc (Dk red five)
set_option maxHeartbeats 6400000
set_option maxRecDepth 100000
theorem runG_one (s : Dk) : (runG s 1).2.2 = faultD s := by
  unfold runG
  by_cases h : faultD s = (0, 0)
  · rw [if_pos h, if_pos (by decide), h]
  · rw [if_neg h]
def prD (W : List Int) (a t : Int) : Dk := { dk0 with words := W, a := a, at_ := t }
def prW (m : Int) : List Int := (((List.replicate 100 (0 : Int)).set 0 599).set 1 699).set 99 m
theorem fault_at (W : List Int) (a : Int) : faultD (prD W a 1) = faultD (prD W a 0) := by
  unfold faultD prD
  simp
theorem pr_step0 (a m : Int) : Acc.stepF (prD (prW m) a 0) = { prD (prW m) a 1 with a := red (a * m), q := (a * m).tdiv 100000 } := by
  have ho : Acc.opF (prD (prW m) a 0) = 5 := by rfl
  have ha : Acc.addrF (prD (prW m) a 0) = ((99 : Nat) : Int) := by rfl
  have he : Acc.stopF (prD (prW m) a 0) = 0 := by
    unfold Acc.stopF
    rw [if_neg (by show ¬ (0 : Int) = 100; decide), if_neg (by rw [ho, show Acc.wordAt (prD (prW m) a 0) (prD (prW m) a 0).at_ = 599 from rfl]; decide), if_neg (by rw [ha]; decide), if_neg (by rw [ho]; exact fun h => absurd h.1 (by decide)), if_neg (by rw [ho]; exact fun h => absurd h.1 (by decide))]
  rw [step_with he ho ha]
  rfl
theorem pr_step1 (a m : Int) (hm : m ≠ 0) : Acc.stepF (prD (prW m) a 1) = { prD (prW m) a 2 with a := a.tdiv m, q := a.tmod m } := by
  have ho : Acc.opF (prD (prW m) a 1) = 6 := by rfl
  have ha : Acc.addrF (prD (prW m) a 1) = ((99 : Nat) : Int) := by rfl
  have he : Acc.stopF (prD (prW m) a 1) = 0 := by
    unfold Acc.stopF
    rw [if_neg (by show ¬ (1 : Int) = 100; decide), if_neg (by rw [ho, show Acc.wordAt (prD (prW m) a 1) (prD (prW m) a 1).at_ = 699 from rfl]; decide), if_neg (by rw [ha]; decide), if_neg (by rw [ha, show Acc.wordAt (prD (prW m) a 1) ((99 : Nat) : Int) = m from rfl]; exact fun h => hm h.2), if_neg (by rw [ho]; exact fun h => absurd h.1 (by decide))]
  rw [step_with he ho ha]
  rfl
theorem pr_step2 (a : Int) : Acc.stepF (prD (prW 0) a 1) = { prD (prW 0) a 1 with stop := 6 } := by rfl
theorem runG_step {s : Dk} (hf : faultD s = (0, 0)) (hs : s.stop = 0) : (runG s 1).1 = Acc.stepF s := by
  unfold runG
  rw [if_pos hf, if_pos (by decide)]
  show (Acc.runF 1 s).1 = _
  rw [Acc.runF, if_pos hs]
  rfl
/-- A state without input and output: its cells alone hold it. -/
theorem DkIs.move {w w' : World} {cs : Array Value} {s : Dk} (h : DkIs w cs s) (hi : s.input = []) (ho : s.output = []) : DkIs w' cs s := by
  obtain ⟨A, c, h1, h2, h3, h4, _⟩ := h.input
  obtain ⟨A', c', k1, k2, k3, k4, _⟩ := h.output
  exact ⟨h.size, h.words, h.at_, h.a, h.q, h.x, h.ov, ⟨A, c, h1, h2, h3, h4, by rw [hi]; exact SlC.nil _ _⟩, ⟨A', c', k1, k2, k3, k4, by rw [ho]; exact SlC.nil _ _⟩, h.stop, h.wf⟩
theorem dk_word {w : World} {cs : Array Value} {s : Dk} (h : DkIs w cs s) {i : Nat} (hi : i < 100) {n : Int} (hn : I64 n) : DkIs w (cs.setIfInBounds i (.int .i64 n)) { s with words := s.words.set i n } := by
  have hsz := h.size
  have k : ∀ j, 100 ≤ j → (cs.setIfInBounds i (.int .i64 n))[j]? = cs[j]? := fun j hj => by rw [getD_set, if_neg (by omega)]
  refine ⟨by simpa using hsz, fun j hj => ?_, (k 100 (by omega)).trans h.at_, (k 101 (by omega)).trans h.a, (k 102 (by omega)).trans h.q, (k 103 (by omega)).trans h.x, (k 104 (by omega)).trans h.ov, by rw [k 105 (by omega)]; exact h.input, by rw [k 106 (by omega)]; exact h.output, (k 107 (by omega)).trans h.stop, ⟨by simpa using h.wf.len, fun x hx => ?_, h.wf.at_, h.wf.a, h.wf.q, h.wf.x, h.wf.input, h.wf.output, h.wf.stop⟩⟩
  · have hl := h.wf.len
    show _ = some (Value.int .i64 ((s.words.set i n)[j]?.getD 0))
    rw [getD_set, List.getElem?_set]
    split
    · rw [if_pos (by omega), if_pos (by omega)]; rfl
    · exact h.words j hj
  · rcases List.mem_or_eq_of_mem_set hx with q | q
    · exact h.wf.words x q
    · rw [q]; exact hn
theorem dk_a {w : World} {cs : Array Value} {s : Dk} (h : DkIs w cs s) {n : Int} (hn : I64 n) : DkIs w (cs.setIfInBounds 101 (.int .i64 n)) { s with a := n } := by
  have hsz := h.size
  have k : ∀ j, j ≠ 101 → (cs.setIfInBounds 101 (.int .i64 n))[j]? = cs[j]? := fun j hj => by rw [getD_set, if_neg (by omega)]
  refine ⟨by simpa using hsz, fun j hj => (k j (by omega)).trans (h.words j hj), (k 100 (by omega)).trans h.at_, by rw [getD_set, if_pos rfl, if_pos (by omega)], (k 102 (by omega)).trans h.q, (k 103 (by omega)).trans h.x, (k 104 (by omega)).trans h.ov, by rw [k 105 (by omega)]; exact h.input, by rw [k 106 (by omega)]; exact h.output, (k 107 (by omega)).trans h.stop, ⟨h.wf.len, h.wf.words, h.wf.at_, hn, h.wf.q, h.wf.x, h.wf.input, h.wf.output, h.wf.stop⟩⟩
theorem dk_at {w : World} {cs : Array Value} {s : Dk} (h : DkIs w cs s) {n : Int} (hn : I64 n) : DkIs w (cs.setIfInBounds 100 (.int .i64 n)) { s with at_ := n } := by
  have hsz := h.size
  have k : ∀ j, j ≠ 100 → (cs.setIfInBounds 100 (.int .i64 n))[j]? = cs[j]? := fun j hj => by rw [getD_set, if_neg (by omega)]
  refine ⟨by simpa using hsz, fun j hj => (k j (by omega)).trans (h.words j hj), by rw [getD_set, if_pos rfl, if_pos (by omega)], (k 101 (by omega)).trans h.a, (k 102 (by omega)).trans h.q, (k 103 (by omega)).trans h.x, (k 104 (by omega)).trans h.ov, by rw [k 105 (by omega)]; exact h.input, by rw [k 106 (by omega)]; exact h.output, (k 107 (by omega)).trans h.stop, ⟨h.wf.len, h.wf.words, hn, h.wf.a, h.wf.q, h.wf.x, h.wf.input, h.wf.output, h.wf.stop⟩⟩
theorem ext_set {w wx : World} (h : Ext w wx) {g : Nat} (hg : w.heap.size ≤ g) (i : Nat) (u : Value) : Ext w (wx.setCell ⟨g, i, none⟩ u) := Below.setCell (p := ⟨g, i, none⟩) h hg u
theorem heap_set_ne (w : World) {g k : Nat} (h : k ≠ g) (i : Nat) (u : Value) : (w.setCell ⟨g, i, none⟩ u).heap[k]? = w.heap[k]? := Below.heap_setCell w ⟨g, i, none⟩ u k h
/-- The law's variable. -/
structure Pr (w wx : World) (g : Nat) (cs : Array Value) (s : Dk) : Prop where
  v : Var wx g cs s
  x : Ext w wx
  ge : w.heap.size ≤ g
  i : s.input = []
  o : s.output = []
theorem Pr.ext {w wx w2 : World} {g : Nat} {cs : Array Value} {s : Dk} (h : Pr w wx g cs s) (x : Ext wx w2) : Pr w w2 g cs s := ⟨h.v.ext x, h.x.trans x, h.ge, h.i, h.o⟩
theorem Pr.word {w wx : World} {g : Nat} {cs : Array Value} {s : Dk} (h : Pr w wx g cs s) {i : Nat} (hi : i < 100) {n : Int} (hn : I64 n) : Pr w (wx.setCell ⟨g, i, none⟩ (.int .i64 n)) g (cs.setIfInBounds i (.int .i64 n)) { s with words := s.words.set i n } :=
  ⟨⟨heap_set_self h.v.g i _, (dk_word h.v.st hi hn).move h.i h.o⟩, ext_set h.x h.ge _ _, h.ge, h.i, h.o⟩
theorem Pr.at_ {w wx : World} {g : Nat} {cs : Array Value} {s : Dk} (h : Pr w wx g cs s) {n : Int} (hn : I64 n) : Pr w (wx.setCell ⟨g, 100, none⟩ (.int .i64 n)) g (cs.setIfInBounds 100 (.int .i64 n)) { s with at_ := n } :=
  ⟨⟨heap_set_self h.v.g 100 _, (dk_at h.v.st hn).move h.i h.o⟩, ext_set h.x h.ge _ _, h.ge, h.i, h.o⟩
theorem run_build_a (a : Int) (w : World) : (Instr.build 25 #[(2, Value.int .i64 a)]).run Tryd.prog w = .ok (.agg (zeroDk.setIfInBounds 101 (.int .i64 a))) w := by kernel_rfl
theorem wpList_build_a {w : World} {ops : Array Oper} {rest : List Oper} {o : Oper} {a : Act} {Q : Exit → Act → World → Prop} (hgd : o.guard = none) (x : Operand) (ho : o.op = .build 25 #[(2, x)]) (n : Int) (hx : a.eval x = .int .i64 n)
    (h : wpList Tryd.prog ops Q rest (a.put o.dst (.agg (zeroDk.setIfInBounds 101 (.int .i64 n)))) w) : wpList Tryd.prog ops Q (o :: rest) a w := by
  refine wpList_plain hgd fun K hK => ?_
  unfold Oper.wp execOp
  simp only [ho, List.map_toArray, List.map_cons, List.map_nil, hx, Sem.run_bind, run_build_a, Sem.run_pure, Result.andThen_ok]
  exact hK _ _ h
theorem zeroA_one (n : Int) : (zeroDk.setIfInBounds 101 (.int .i64 n)).all (·.oneCell') = true := by kernel_rfl
theorem zeroA_size (n : Int) : (zeroDk.setIfInBounds 101 (.int .i64 n)).size = 108 := by kernel_rfl
/-- What the products are like. -/
structure PrA (a m A Q : Int) : Prop where
  whole : A + 100000 * Q = a * m
  sign : 0 ≤ A * Q
  fa : five A = true
  fq : five Q = true
theorem pr_mk {a m : Int} (ha : five a = true) (hm : five m = true) : PrA a m (red (a * m)) ((a * m).tdiv 100000) :=
  ⟨(Acc.prod_whole _).1, (Acc.prod_whole _).2, Acc.red_five _, Acc.mul_tdiv_five ha hm⟩
theorem pr_run0 {a m : Int} (hf : faultD (prD (prW m) a 0) = (0, 0)) : (runG (prD (prW m) a 0) 1).1 = { prD (prW m) a 1 with a := red (a * m), q := (a * m).tdiv 100000 } := by rw [runG_step hf rfl, pr_step0]
theorem pr_io0 (a m t : Int) : (runG (prD (prW m) a t) 1).1.input = [] ∧ (runG (prD (prW m) a t) 1).1.output = [] ∨ ¬ (t = 0 ∨ t = 1) := by
  by_cases ht : t = 0 ∨ t = 1
  · left
    by_cases hf : faultD (prD (prW m) a t) = (0, 0)
    · rw [runG_step hf rfl]
      rcases ht with rfl | rfl
      · rw [pr_step0]; exact ⟨rfl, rfl⟩
      · by_cases hm : m = 0
        · subst hm; rw [pr_step2]; exact ⟨rfl, rfl⟩
        · rw [pr_step1 a m hm]; exact ⟨rfl, rfl⟩
    · unfold runG; rw [if_neg hf]; exact ⟨rfl, rfl⟩
  · exact .inr ht
theorem pr_five {w : World} {cs : Array Value} {a m : Int} (h : DkIs w cs (prD (prW m) a 0)) (hf : faultD (prD (prW m) a 0) = (0, 0)) : five a = true ∧ five m = true := by
  have h1 := ok_of h hf
  refine ⟨h1.ok.a, h1.ok.words m ?_⟩
  exact List.mem_of_getElem? (i := 99) (l := prW m) rfl
theorem prod_c (a m : Int) (w : World) (ha : I64 a) (hm : I64 m) (ht : Tabs w) : Calls Tryd.prog 5 #[.int .i64 a, .int .i64 m] w (BRet w true) := by
  have HT := Lib.hid ht
  have H2 := Lib.hid (tabs_two ht)
  have HIA := Lib.hid ha
  have HIM := Lib.hid hm
  clear ht ha hm
  go_enter Tryd.func5, Tryd.ntmps5
  go_upto_region 3 with (go_at_call 19; refine (decked_c _ HT.out H2.out).mono ?_; rintro e w0 ⟨rfl, hx0⟩; have HX0 := Lib.hid hx0; clear hx0)
  go_cut [5] (fun s5 wx => ∃ g cs, s5 = .pointer (some ⟨g, 0, none⟩) ∧ Pr w wx g cs (prD (List.replicate 100 0) a 0))
  case first =>
    have HZ := Lib.hid (heap_alloc_new w0 (.cells zeroDk 25))
    have HP : Hid (Pr w ((w0.alloc (.cells zeroDk 25)).setRow w0.heap.size (zeroDk.setIfInBounds 101 (.int .i64 a))) w0.heap.size (zeroDk.setIfInBounds 101 (.int .i64 a)) (prD (List.replicate 100 0) a 0)) :=
      Lib.hid ⟨⟨setRow_heap _ _ _ _ _ _ HZ.out, dk_a (zero_is _) HIA.out⟩, HX0.out.trans (((Ext.refl w0).alloc _).setRow (Nat.le_refl _) _), HX0.out.size, rfl, rfl⟩
    go_wp2_with (first | refine wpList_build_a rfl _ rfl a rfl ?_ | refine wpList_allocS rfl rfl ?_ | refine wpList_store_row rfl 25 _ _ rfl w0.heap.size (zeroDk.setIfInBounds 101 (.int .i64 a)) rfl rfl 25 zeroDk HZ.out (by rw [zeroA_size]; exact sizeS) (by rw [zeroA_size]; rfl) (zeroA_one a) ?_)
    go_meet
    exact ⟨_, _, rfl, HP.out⟩
  obtain ⟨g, cs0, rfl, hp0⟩ := hcut
  obtain ⟨wa, rfl⟩ : ∃ wa : World, wa = wc := ⟨_, rfl⟩
  have HP0 := Lib.hid hp0
  clear hp0
  have kc := (blk_cell HP0.out.v.g 0).trans (HP0.out.v.st.words 0 (by decide))
  have kf := blk_frozen HP0.out.v.g 0
  go_upto_region 4 with (fail)
  go_cut [] (fun wx => ∃ cs, Pr w wx g cs (prD ((List.replicate 100 0).set 0 599) a 0))
  case first =>
    go_wp2_with fail
    go_meet
    exact ⟨_, HP0.out.word (by decide) ⟨by decide, by decide⟩⟩
  obtain ⟨cs1, hp1⟩ := hcut
  obtain ⟨wb, rfl⟩ : ∃ wb : World, wb = wc := ⟨_, rfl⟩
  have HP1 := Lib.hid hp1
  clear hp1 kc kf
  have kc := (blk_cell HP1.out.v.g 1).trans (HP1.out.v.st.words 1 (by decide))
  have kf := blk_frozen HP1.out.v.g 1
  go_upto_region 5 with (fail)
  go_cut [] (fun wx => ∃ cs, Pr w wx g cs (prD (((List.replicate 100 0).set 0 599).set 1 699) a 0))
  case first =>
    go_wp2_with fail
    go_meet
    exact ⟨_, HP1.out.word (by decide) ⟨by decide, by decide⟩⟩
  obtain ⟨cs2, hp2⟩ := hcut
  obtain ⟨wd, rfl⟩ : ∃ wd : World, wd = wc := ⟨_, rfl⟩
  have HP2 := Lib.hid hp2
  clear hp2 kc kf
  have kc := (blk_cell HP2.out.v.g 99).trans (HP2.out.v.st.words 99 (by decide))
  have kf := blk_frozen HP2.out.v.g 99
  go_upto_region 6 with (fail)
  go_cut [] (fun wx => ∃ cs, Pr w wx g cs (prD ((((List.replicate 100 0).set 0 599).set 1 699).set 99 m) a 0))
  case first =>
    go_wp2_with fail
    go_meet
    exact ⟨_, HP2.out.word (by decide) HIM.out⟩
  obtain ⟨cs3, hp3⟩ := hcut
  obtain ⟨we, rfl⟩ : ∃ we : World, we = wc := ⟨_, rfl⟩
  have HP3 : Hid (Pr w we g cs3 (prD (prW m) a 0)) := Lib.hid hp3
  clear hp3 kc kf
  obtain ⟨c, i, hci⟩ := fault_pair (prD (prW m) a 0)
  have HC := Lib.hid hci
  have HC2 := Lib.hid ((fault_at (prW m) a).trans hci)
  clear hci
  go_upto_region 7 with (fail)
  go_cut [6, 7] (fun s6 s7 wx => ∃ g' cs', s6 = .pointer (some ⟨g', 0, none⟩) ∧ s7 = .pointer (some ⟨g' + 1, 0, none⟩) ∧ Var wx g' cs' (runG (prD (prW m) a 0) 1).1 ∧ wx.heap[g' + 1]? = some (.cells #[.int .i64 c, .int .i64 i] 28 (0, 0)) ∧ Ext we wx ∧ we.heap.size ≤ g')
  case first =>
    have HR := Lib.hid (step_go cs3 _ we HP3.out.v.st (HT.out.below HP3.out.x H2.out) (Nat.le_trans H2.out HP3.out.x.size))
    go_wp2_with (refine wpList_load_row rfl 25 _ rfl g rfl 25 cs3 (0, 0) _ HP3.out.v.g Tryd.underlying25 rfl (by rw [HP3.out.v.st.size]; exact sizeS) ?_)
    refine HR.out.mono ?_
    rw [runG_one, HC.out]
    rintro e w1 ⟨cs', rfl, hst, hx1⟩
    have HA := Lib.hid (asg_mk w1 hst.st c i)
    have HS2 := Lib.hid hst.st.size
    have HO := Lib.hid (dk_one hst.st)
    have HX1 := Lib.hid hx1
    have HZ := Lib.hid (heap_alloc2_old w1 (.cells zeroDk 25) (.cells #[.int .i64 0, .int .i64 0] 28))
    have HF := Lib.hid ((setRow_other _ w1.heap.size (w1.heap.size + 1) cs' (by omega)).trans (heap_alloc2_new w1 (.cells zeroDk 25) (.cells #[.int .i64 0, .int .i64 0] 28)))
    clear hst hx1
    simp only [fAgg]
    go_wp2_with (first | refine wpList_allocS rfl rfl ?_ | refine wpList_store_row rfl 25 _ _ rfl w1.heap.size cs' rfl rfl 25 zeroDk HZ.out (by rw [HS2.out]; exact sizeS) (by rw [HS2.out]; rfl) HO.out ?_ | refine wpList_store_row rfl 28 _ _ rfl (w1.heap.size + 1) #[.int .i64 c, .int .i64 i] rfl rfl 28 _ HF.out sizeF rfl (by kernel_rfl) ?_)
    go_meet
    exact ⟨_, cs', rfl, rfl, HA.out.v, HA.out.f, HX1.out.trans HA.out.x, HX1.out.size⟩
  obtain ⟨g6, c6, rfl, rfl, hv6, hf6, hx6, hg6⟩ := hcut
  obtain ⟨wf, rfl⟩ : ∃ wf : World, wf = wc := ⟨_, rfl⟩
  have hlt3 : g < we.heap.size := (Array.getElem?_eq_some_iff.1 HP3.out.v.g).1
  have HP4 := Lib.hid (HP3.out.ext hx6)
  have HV6 := Lib.hid hv6
  have HF6 := Lib.hid hf6
  have HG6 := Lib.hid (show g ≠ g6 ∧ g ≠ g6 + 1 by omega)
  have HIO := Lib.hid ((pr_io0 a m 0).resolve_right (by simp))
  have HIO2 := Lib.hid ((pr_io0 a m 1).resolve_right (by simp))
  clear hv6 hf6 hx6 hg6 hlt3
  have kc := (blk_cell HP4.out.v.g 100).trans HP4.out.v.st.at_
  have kf := blk_frozen HP4.out.v.g 100
  go_upto_region 8 with (fail)
  go_cut [] (fun wx => ∃ cs, Pr w wx g cs (prD (prW m) a 1) ∧ Var wx g6 c6 (runG (prD (prW m) a 0) 1).1 ∧ wx.heap[g6 + 1]? = some (.cells #[.int .i64 c, .int .i64 i] 28 (0, 0)))
  case first =>
    go_wp2_with fail
    go_meet
    exact ⟨_, HP4.out.at_ ⟨by decide, by decide⟩, ⟨(heap_set_ne _ HG6.out.1.symm _ _).trans HV6.out.g, HV6.out.st.move HIO.out.1 HIO.out.2⟩, (heap_set_ne _ HG6.out.2.symm _ _).trans HF6.out⟩
  obtain ⟨cs5, hp5, hv5, hf5⟩ := hcut
  obtain ⟨wg, rfl⟩ : ∃ wg : World, wg = wc := ⟨_, rfl⟩
  have HP5 := Lib.hid hp5
  have HV5 := Lib.hid hv5
  have HF5 := Lib.hid hf5
  clear hp5 hv5 hf5 kc kf
  go_upto_region 9 with (fail)
  go_cut [8, 9] (fun s6 s7 wx => ∃ g' cs', s6 = .pointer (some ⟨g', 0, none⟩) ∧ s7 = .pointer (some ⟨g' + 1, 0, none⟩) ∧ Var wx g' cs' (runG (prD (prW m) a 1) 1).1 ∧ wx.heap[g' + 1]? = some (.cells #[.int .i64 c, .int .i64 i] 28 (0, 0)) ∧ Ext wg wx ∧ wg.heap.size ≤ g')
  case first =>
    have HR := Lib.hid (step_go cs5 _ wg HP5.out.v.st (HT.out.below HP5.out.x H2.out) (Nat.le_trans H2.out HP5.out.x.size))
    go_wp2_with (refine wpList_load_row rfl 25 _ rfl g rfl 25 cs5 (0, 0) _ HP5.out.v.g Tryd.underlying25 rfl (by rw [HP5.out.v.st.size]; exact sizeS) ?_)
    refine HR.out.mono ?_
    rw [runG_one, HC2.out]
    rintro e w1 ⟨cs', rfl, hst, hx1⟩
    have HA := Lib.hid (asg_mk w1 hst.st c i)
    have HS2 := Lib.hid hst.st.size
    have HO := Lib.hid (dk_one hst.st)
    have HX1 := Lib.hid hx1
    have HZ := Lib.hid (heap_alloc2_old w1 (.cells zeroDk 25) (.cells #[.int .i64 0, .int .i64 0] 28))
    have HF := Lib.hid ((setRow_other _ w1.heap.size (w1.heap.size + 1) cs' (by omega)).trans (heap_alloc2_new w1 (.cells zeroDk 25) (.cells #[.int .i64 0, .int .i64 0] 28)))
    clear hst hx1
    simp only [fAgg]
    go_wp2_with (first | refine wpList_allocS rfl rfl ?_ | refine wpList_store_row rfl 25 _ _ rfl w1.heap.size cs' rfl rfl 25 zeroDk HZ.out (by rw [HS2.out]; exact sizeS) (by rw [HS2.out]; rfl) HO.out ?_ | refine wpList_store_row rfl 28 _ _ rfl (w1.heap.size + 1) #[.int .i64 c, .int .i64 i] rfl rfl 28 _ HF.out sizeF rfl (by kernel_rfl) ?_)
    go_meet
    exact ⟨_, cs', rfl, rfl, HA.out.v, HA.out.f, HX1.out.trans HA.out.x, HX1.out.size⟩
  obtain ⟨g8, c8, rfl, rfl, hv8, hf8, hx8, hg8⟩ := hcut
  obtain ⟨wh, rfl⟩ : ∃ wh : World, wh = wc := ⟨_, rfl⟩
  have HP6 := Lib.hid (HP5.out.ext hx8)
  have HV7 := Lib.hid (HV5.out.ext hx8)
  have HF7 := Lib.hid (ext_heap hx8 HF5.out)
  have HV8 := Lib.hid hv8
  have HF8 := Lib.hid hf8
  clear hv8 hf8 hx8 hg8
  go_upto_region 10 with (fail)
  go_cut [10] (fun s10 wx => ∃ g', s10 = .pointer (some ⟨g', 0, none⟩) ∧ wx.heap[g']? = some (.cells #[.int .i64 c, .int .i64 i] 28 (0, 0)) ∧ Ext wh wx)
  case first =>
    have HR := Lib.hid (DeckFault_c cs5 _ wh HP6.out.v.st)
    go_wp2_with (refine wpList_load_row rfl 25 _ rfl g rfl 25 cs5 (0, 0) _ HP6.out.v.g Tryd.underlying25 rfl (by rw [HP6.out.v.st.size]; exact sizeS) ?_)
    refine HR.out.mono ?_
    rw [HC2.out]
    rintro e w1 ⟨rfl, hx1⟩
    have HX1 := Lib.hid hx1
    have HF := Lib.hid (heap_alloc_new w1 (.cells #[.int .i64 0, .int .i64 0] 28))
    clear hx1
    simp only [fAgg]
    go_wp2_with (refine wpList_store_row rfl 28 _ _ rfl w1.heap.size #[.int .i64 c, .int .i64 i] rfl rfl 28 _ HF.out sizeF rfl (by kernel_rfl) ?_)
    go_meet
    exact ⟨_, rfl, setRow_heap _ _ _ _ _ _ HF.out, HX1.out.trans (((Ext.refl w1).alloc _).setRow (Nat.le_refl _) _)⟩
  obtain ⟨g10, rfl, hf10, hx10⟩ := hcut
  obtain ⟨wi, rfl⟩ : ∃ wi : World, wi = wc := ⟨_, rfl⟩
  have a0 : wi.cell? ⟨g6 + 1, 0, none⟩ = some (.int .i64 c) := blk_cell (ext_heap hx10 HF7.out) 0
  have a1 : wi.cell? ⟨g6 + 1, 1, none⟩ = some (.int .i64 i) := blk_cell (ext_heap hx10 HF7.out) 1
  have a2 : wi.cell? ⟨g8 + 1, 0, none⟩ = some (.int .i64 c) := blk_cell (ext_heap hx10 HF8.out) 0
  have a3 : wi.cell? ⟨g8 + 1, 1, none⟩ = some (.int .i64 i) := blk_cell (ext_heap hx10 HF8.out) 1
  have a4 : wi.cell? ⟨g10, 0, none⟩ = some (.int .i64 c) := blk_cell hf10 0
  have a5 : wi.cell? ⟨g10, 1, none⟩ = some (.int .i64 i) := blk_cell hf10 1
  have HX := Lib.hid (HP6.out.x.trans hx10)
  have HVT := Lib.hid (HV7.out.ext hx10)
  have HVU := Lib.hid (HV8.out.ext hx10)
  clear hf10 hx10
  by_cases hc0 : c = 0
  rotate_left
  · have hne : (c != 0) = true := by simpa using hc0
    go_wp2_with fail
    go_ret
    exact ⟨rfl, HX.out⟩
  subst hc0
  have hgood : faultD (prD (prW m) a 0) = (0, 0) := by
    by_cases hq : faultD (prD (prW m) a 0) = (0, 0)
    · exact hq
    · exact absurd (by rw [HC.out]) (fault_code hq)
  have hi0 : i = 0 := by have := HC.out; rw [hgood] at this; injection this with _ h; exact h.symm
  subst hi0
  have HGD := Lib.hid hgood
  have hfv := pr_five HP3.out.v.st hgood
  have HFV := Lib.hid hfv
  have HAT := Lib.hid (pr_mk hfv.1 hfv.2)
  have b0 := (blk_cell HVT.out.g 101).trans HVT.out.st.a
  have b1 := (blk_cell HVT.out.g 102).trans HVT.out.st.q
  rw [pr_run0 hgood] at b0 b1
  simp only at b0 b1
  clear hgood hfv
  generalize red (a * m) = A at *
  generalize (a * m).tdiv 100000 = Q at *
  have p0 := mul_wrap HFV.out.1 HFV.out.2
  have p1 := mul_wrap HAT.out.fa HAT.out.fq
  have p2 : IntKind.i64.wrap (100000 * Q) = 100000 * Q := IntWalk.i64_in _ (by have := Acc.five_iff.1 HAT.out.fq; omega)
  have p3 : IntKind.i64.wrap (A + 100000 * Q) = a * m := by rw [HAT.out.whole]; exact p0
  have p4 : decide (A * Q < 0) = false := by have := HAT.out.sign; simp; omega
  by_cases hm0 : m = 0
  · subst hm0
    have b2 : wi.cell? ⟨g8, 107, none⟩ = some (.int .i64 6) := by
      rw [blk_cell HVU.out.g 107, HVU.out.st.stop, runG_step (HC2.out) rfl, pr_step2]
    have b3 : wi.cell? ⟨g8, 101, none⟩ = some (.int .i64 a) := by
      rw [blk_cell HVU.out.g 101, HVU.out.st.a, runG_step (HC2.out) rfl, pr_step2]; rfl
    go_wp2_with fail
    go_ret
    exact ⟨rfl, HX.out⟩
  have n0 : (m == 0) = false := by simpa using hm0
  have b2 : wi.cell? ⟨g8, 101, none⟩ = some (.int .i64 (a.tdiv m)) := by
    rw [blk_cell HVU.out.g 101, HVU.out.st.a, runG_step (HC2.out) rfl, pr_step1 a m hm0]
  have b3 : wi.cell? ⟨g8, 102, none⟩ = some (.int .i64 (a.tmod m)) := by
    rw [blk_cell HVU.out.g 102, HVU.out.st.q, runG_step (HC2.out) rfl, pr_step1 a m hm0]
  have hw := Acc.div_whole a m hm0
  have hf := Acc.five_iff.1 HFV.out.1
  have hf2 := Acc.five_iff.1 HFV.out.2
  have hU : five (a.tdiv m) = true := by
    rw [Acc.five_iff]
    have h1 : (a.tdiv m).natAbs ≤ a.natAbs := by rw [Int.natAbs_tdiv]; exact Nat.div_le_self _ _
    omega
  have hR : five (a.tmod m) = true := by
    rw [Acc.five_iff]
    have := hw.2.1
    omega
  have p5 := mul_wrap hU HFV.out.2
  have p6 := mul_wrap hR HFV.out.1
  have HU := Lib.hid hU
  have HW := Lib.hid hw
  have hr := Acc.five_iff.1 hR
  clear hU hR hw
  generalize a.tdiv m = U at *
  generalize a.tmod m = R at *
  have p7 : IntKind.i64.wrap (U * m + R) = a := by rw [HW.out.1]; exact IntWalk.i64_in _ (by omega)
  have p8 : decide (R * a ≥ 0) = true := by have := HW.out.2.2; simpa using this
  have hlt := HW.out.2.1
  by_cases s1 : R < 0
  all_goals by_cases s2 : m < 0
  all_goals go_wp2_with fail
  all_goals go_ret
  all_goals exact ⟨rfl, HX.out⟩
end Go.Proofs.YtbaahbpianingaaDoor
