import Derived.Test.YtbaahbpianingaaDoorDS1
import Derived.Test.YtbaahbpianingaaDoorDS2
import Derived.Test.YtbaahbpianingaaDoorDS3
import Derived.Test.YtbaahbpianingaaDoorDS4
namespace Go.Proofs.YtbaahbpianingaaDoor
open Go Go.Proofs Go.RowKit
open Acc (Dk red five)
set_option maxHeartbeats 3200000
set_option maxRecDepth 100000
theorem dstep_all (bad : Nat → Prop) (cs : Array Value) (s : Dk) (w : World) (hbad : ∀ g, bad g → g < w.heap.size) (h : StAv bad w cs s) (hok : OkSt s) : Calls Tryd.prog 46 #[.agg cs] w (SpRet bad w (Acc.stepF s)) := by
  by_cases hz : Acc.stopF s = 0
  · obtain ⟨p, W0, a, m, ah⟩ := ahead hok hz
    have k0 := ah.k0
    have k17 := ah.k17
    obtain ⟨x, hx⟩ : ∃ x, Acc.opF s = x := ⟨_, rfl⟩
    rw [hx] at k0 k17
    clear ah
    rcases (by omega : x = 0 ∨ x = 1 ∨ x = 2 ∨ x = 3 ∨ x = 4 ∨ x = 5 ∨ x = 6 ∨ x = 7 ∨ x = 8 ∨ x = 9 ∨ x = 10 ∨ x = 11 ∨ x = 12 ∨ x = 13 ∨ x = 14 ∨ x = 15 ∨ x = 16 ∨ x = 17) with rfl | rfl | rfl | rfl | rfl | rfl | rfl | rfl | rfl | rfl | rfl | rfl | rfl | rfl | rfl | rfl | rfl | rfl
    · exact dstep_0 bad cs s w hbad h hok hz hx
    · exact dstep_1 bad cs s w hbad h hok hz hx
    · exact dstep_2 bad cs s w hbad h hok hz hx
    · cases hf : five (s.a + Acc.wordAt s (Acc.addrF s)) with
      | true => exact dstep_3t bad cs s w hbad h hok hz hx hf
      | false => exact dstep_3f bad cs s w hbad h hok hz hx hf
    · cases hf : five (s.a - Acc.wordAt s (Acc.addrF s)) with
      | true => exact dstep_4t bad cs s w hbad h hok hz hx hf
      | false => exact dstep_4f bad cs s w hbad h hok hz hx hf
    · exact dstep_5 bad cs s w hbad h hok hz hx
    · exact dstep_6 bad cs s w hbad h hok hz hx
    · exact dstep_7 bad cs s w hbad h hok hz hx
    · by_cases q : s.a < 0
      · exact dstep_8t bad cs s w hbad h hok hz hx q
      · exact dstep_8f bad cs s w hbad h hok hz hx q
    · cases q : (s.a == 0) with
      | true => exact dstep_9t bad cs s w hbad h hok hz hx q
      | false => exact dstep_9f bad cs s w hbad h hok hz hx q
    · cases q : s.ov with
      | true => exact dstep_10t bad cs s w hbad h hok hz hx q
      | false => exact dstep_10f bad cs s w hbad h hok hz hx q
    · exact dstep_11 bad cs s w hbad h hok hz hx
    · cases hf : five (s.x - 1) with
      | true =>
        cases q : (red (s.x - 1) != 0) with
        | true => exact dstep_12tf bad cs s w hbad h hok hz hx hf q
        | false => exact dstep_12tt bad cs s w hbad h hok hz hx hf q
      | false =>
        cases q : (red (s.x - 1) != 0) with
        | true => exact dstep_12ff bad cs s w hbad h hok hz hx hf q
        | false => exact dstep_12ft bad cs s w hbad h hok hz hx hf q
    · cases q : s.input with
      | nil => exact dstep_13e bad cs s w hbad h hok hz hx q
      | cons xi ri => exact dstep_13x bad cs s w hbad h hok hz hx xi ri q
    · exact dstep_14 bad cs s w hbad h hok hz hx
    · exact dstep_15 bad cs s w hbad h hok hz hx
    · exact dstep_16 bad cs s w hbad h hok hz hx
    · exact dstep_17 bad cs s w hbad h hok hz hx
  · by_cases h1 : s.at_ = 100
    · have e : Acc.stopF s = 3 := by unfold Acc.stopF; rw [if_pos h1]
      rw [stepF_stop e (by decide)]
      exact dstop_at bad cs s w h hok h1
    by_cases h2 : Acc.wordAt s s.at_ < 0 ∨ 20000 ≤ Acc.wordAt s s.at_ ∨ 18 ≤ Acc.opF s
    · have e : Acc.stopF s = 2 := by unfold Acc.stopF; rw [if_neg h1, if_pos h2]
      rw [stepF_stop e (by decide)]
      by_cases q : Acc.wordAt s s.at_ < 0 ∨ 20000 ≤ Acc.wordAt s s.at_
      · exact dstop_word bad cs s w h hok h1 q
      · exact dstop_op bad cs s w h hok h1 (by omega) (by omega)
    by_cases h3 : Acc.addrF s < 0 ∨ 100 ≤ Acc.addrF s
    · have e : Acc.stopF s = 3 := by unfold Acc.stopF; rw [if_neg h1, if_neg h2, if_pos h3]
      rw [stepF_stop e (by decide)]
      exact dstop_addr bad cs s w h hok h1 (by omega) (by omega) h3
    by_cases h4 : Acc.opF s = 6 ∧ Acc.wordAt s (Acc.addrF s) = 0
    · have e : Acc.stopF s = 6 := by unfold Acc.stopF; rw [if_neg h1, if_neg h2, if_neg h3, if_pos h4]
      rw [stepF_stop e (by decide)]
      exact dstop_6 bad cs s w h hok h1 h2 h3 h4.1 h4.2
    by_cases h5 : Acc.opF s = 14 ∧ 1000 < s.output.length + (Acc.lineF s.a).length
    · have e : Acc.stopF s = 7 := by unfold Acc.stopF; rw [if_neg h1, if_neg h2, if_neg h3, if_neg h4, if_pos h5]
      rw [stepF_stop e (by decide)]
      exact dstop_14 bad cs s w h hok h1 h2 h3 h5.1 h5.2
    · exact absurd (by unfold Acc.stopF; rw [if_neg h1, if_neg h2, if_neg h3, if_neg h4, if_neg h5]) hz
theorem SlAt.heap {w F : World} {k : IntKind} {o : Option Value} {l : List Int} (h : SlAt w k o l) (hk : ∀ g, g < w.heap.size → F.heap[g]? = w.heap[g]?) : SlAt F k o l := by
  obtain ⟨A, c, h1, h2, h3, h4, h5⟩ := h
  refine ⟨A, c, h1, h2, h3, h4, fun i u hu => ?_⟩
  obtain ⟨a, ha, hc⟩ := h5 i u hu
  refine ⟨a, ha, ?_⟩
  have hlt := World.block_lt_of_cell? w _ hc
  rw [World.cell?_of_block (w := w) (hk _ hlt)]
  exact hc
theorem DkIs.heap {w F : World} {cs : Array Value} {s : Dk} (h : DkIs w cs s) (hk : ∀ g, g < w.heap.size → F.heap[g]? = w.heap[g]?) : DkIs F cs s :=
  ⟨h.size, h.words, h.at_, h.a, h.q, h.x, h.ov, h.input.heap hk, h.output.heap hk, h.stop, h.wf⟩
def bad2 (B g : Nat) : Prop := g = B ∨ g = B + 1
structure RanI (w wr : World) (s : Dk) (n k : Nat) (sk : Dk) (ck : Array Value) : Prop where
  b1 : wr.heap[w.heap.size]? = some (.cells ck 25 (0, 0))
  b2 : wr.heap[w.heap.size + 1]? = some (.cells zeroDk 25 (0, 0))
  av : StAv (bad2 w.heap.size) wr ck sk
  x : Ext w wr
  ok : OkSt sk
  run : Acc.runF n s = ((Acc.runF (n - k) sk).1, (Acc.runF (n - k) sk).2 + k)
theorem RanI.next {w wr w1 : World} {s : Dk} {n k : Nat} {sk : Dk} {ck c2 : Array Value} (h : RanI w wr s n k sk ck) (hk : k < n) (hs : sk.stop = 0) (ha : StAv (bad2 w.heap.size) w1 c2 (Acc.stepF sk)) (x : Ext wr w1) :
    RanI w (w1.setRow w.heap.size c2) s n (k + 1) (Acc.stepF sk) c2 := by
  refine ⟨setRow_heap _ _ _ _ _ _ (ext_heap x h.b1), (setRow_other _ _ _ _ (by omega)).trans (ext_heap x h.b2), fun F hF => ha F fun g hg hl => ?_, (h.x.trans x).setRow (Nat.le_refl _) _, okst_step h.ok, ?_⟩
  · rw [hF g hg (by simpa [World.setRow] using hl), setRow_other _ _ _ _ (fun e => hg (.inl e))]
  · rw [h.run, show n - k = (n - (k + 1)) + 1 from by omega]
    simp only [Acc.runF, hs, if_true]
    rw [Nat.add_assoc, Nat.add_comm 1 k]
theorem RanI.fin {w wr : World} {s : Dk} {n k : Nat} {sk : Dk} {ck : Array Value} (h : RanI w wr s n k sk ck) (hk : ¬ (k < n ∧ sk.stop = 0)) : Acc.runF n s = (sk, k) := by
  rw [h.run]
  cases hn : n - k with
  | zero => simp [Acc.runF]
  | succ m =>
    have : ¬ sk.stop = 0 := fun hs => hk ⟨by omega, hs⟩
    simp [Acc.runF, this]
def RanRet (w : World) (r : Dk × Nat) (e : Ending) (w' : World) : Prop := ∃ cs', e = .returned (.tuple #[.agg cs', .int .i64 (r.2 : Int)]) ∧ DkIs w' cs' r.1 ∧ Ext w w'
theorem results_ran {P : Program} {fn : Func} {p u : Tmp} {tp : TypeId} (h : fn.results = #[.cell p tp, .tmp u]) (tmps : Array Value) (w : World) (g : Nat) (t : TypeId) (cs : Array Value) (fr : Nat × Nat) (d : TypeDesc)
    (hp : tmps.getD p undef = .pointer (some ⟨g, 0, none⟩)) (hg : w.heap[g]? = some (.cells cs t fr)) (hu : P.underlying tp = some d) (hd : (match d with | .struct _ | .array _ _ => true | _ => false) = true) (hi : (P.info? tp).map (·.size) = some cs.size) :
    (results fn tmps).run P w = .ok (.tuple #[.agg cs, tmps.getD u undef]) w := by
  have hp' : tmps[p]?.getD undef = .pointer (some ⟨g, 0, none⟩) := by simpa using hp
  simp [results, h, hp', asAddr, run_loadVar_row w g t tp cs fr d hg hu hd hi]
theorem ran_c (cs : Array Value) (s : Dk) (N : Nat) (w : World) (h : DkIs w cs s) (hok : OkSt s) (hN : N ≤ 60000) : Calls Tryd.prog 21 #[.agg cs, .int .i64 (N : Int)] w (RanRet w (Acc.runF N s)) := by
  have HH := Lib.hid h
  have HOK := Lib.hid hok
  clear h hok
  go_enter Tryd.func21, Tryd.ntmps21
  go_upto_region 0 with (fail)
  go_cut [2, 4, 5] (fun s2 s4 s5 wx => s2 = .pointer (some ⟨w.heap.size, 0, none⟩) ∧ s4 = .pointer (some ⟨w.heap.size + 1, 0, none⟩) ∧ s5 = .int .i64 0 ∧ wx = (w.alloc (.cells cs 25)).alloc (.cells zeroDk 25))
  case first =>
    go_wp2_with (refine wpList_allocS rfl rfl ?_)
    go_meet
    exact ⟨rfl, by simp, rfl, rfl⟩
  case rest =>
    obtain ⟨rfl, rfl, rfl, hwc⟩ := hcut
    have hxx : Ext w ((w.alloc (.cells cs 25)).alloc (.cells zeroDk 25)) := ((Ext.refl w).alloc _).alloc _
    have HI0 : Hid (RanI w wc s N 0 s cs) := Lib.hid (by
      rw [hwc]
      exact ⟨blk1 w cs zeroDk, blk2 w cs zeroDk, fun F hF => HH.out.heap fun g hg => (hF g (fun hb => by rcases hb with hb | hb <;> omega) (Nat.lt_of_lt_of_le hg hxx.size)).trans (hxx.block g hg), hxx, HOK.out, by simp⟩)
    clear hwc hxx
    go_wp2
    go_loopw [6] (fun v6 wr => ∃ k : Nat, ∃ sk ck, k ≤ N ∧ v6 = .int .i64 k ∧ RanI w wr s N k sk ck) (fun v6 _ => N - (intOf v6).toNat)
    case atStart => exact ⟨0, s, cs, Nat.zero_le _, rfl, HI0.out⟩
    case round =>
      obtain ⟨k, sk, ck, hk, rfl, hl⟩ := hrel
      have k38 : wr.cell? ⟨w.heap.size, 107, none⟩ = some (.int .i64 sk.stop) := (blk_cell hl.b1 107).trans hl.av.st.stop
      have HL := Lib.hid hl
      have HSK := Lib.hid hl.av.st.size
      by_cases hgo : k < N ∧ sk.stop = 0
      · obtain ⟨g1, g2⟩ := hgo
        have HG2 := Lib.hid g2
        rw [g2] at k38
        have hltr : w.heap.size + 1 < wr.heap.size := (Array.getElem?_eq_some_iff.1 hl.b2).1
        have HC := Lib.hid (dstep_all (bad2 w.heap.size) ck sk wr (fun g hg => by rcases hg with hg | hg <;> omega) hl.av hl.ok)
        clear hl g2
        go_wp2_with (refine wpList_load_row rfl 25 _ rfl w.heap.size rfl 25 ck (0, 0) _ HL.out.b1 Tryd.underlying25 rfl (by rw [HSK.out]; exact sizeS) ?_)
        refine HC.out.mono ?_
        rintro e w1 ⟨c2, rfl, ha, hx1⟩
        have HN := Lib.hid (HL.out.next g1 HG2.out ha hx1)
        have HB := Lib.hid (ext_heap hx1 HL.out.b1)
        have HS2 := Lib.hid ha.st.size
        have HO2 := Lib.hid (dk_one ha.st)
        clear ha hx1
        go_wp2_with (refine wpList_store_row rfl 25 _ _ rfl w.heap.size c2 rfl rfl 25 ck HB.out (by rw [HS2.out]; exact sizeS) (by rw [HS2.out, HSK.out]) HO2.out ?_)
        refine ⟨⟨k + 1, Acc.stepF sk, c2, by omega, by go_num, HN.out⟩, by simp [intOf]; omega⟩
      · have HF := Lib.hid (hl.fin hgo)
        have HO := Lib.hid (dk_one hl.av.st)
        have hcase : (N ≤ k) ∨ (k < N ∧ (sk.stop == 0) = false) := by
          by_cases q : k < N
          · right; exact ⟨q, by simp; intro h0; exact hgo ⟨q, h0⟩⟩
          · left; omega
        have HRET : Hid (RanRet w (Acc.runF N s) (.returned (.tuple #[.agg ck, .int .i64 (k : Int)])) (wr.setRow (w.heap.size + 1) ck)) := Lib.hid (by
          rw [HF.out]
          exact ⟨ck, rfl, hl.av _ fun g hg _ => setRow_other _ _ _ _ (fun e => hg (.inr e)), hl.x.setRow (by omega) _⟩)
        clear hl hgo
        rcases hcase with hc1 | ⟨hc1, hc2⟩
        all_goals go_wp2_with (first | refine wpList_load_row rfl 25 _ rfl w.heap.size rfl 25 ck (0, 0) _ HL.out.b1 Tryd.underlying25 rfl (by rw [HSK.out]; exact sizeS) ?_ | refine wpList_store_row rfl 25 _ _ rfl (w.heap.size + 1) ck rfl rfl 25 zeroDk HL.out.b2 (by rw [HSK.out]; exact sizeS) (by rw [HSK.out]; rfl) HO.out ?_)
        all_goals (
          refine bodyPost_ret (results_ran (p := 4) (u := 5) rfl _ _ (w.heap.size + 1) 25 ck (0, 0) _ rfl ?_ Tryd.underlying25 rfl (by rw [HSK.out]; exact sizeS)) rfl HRET.out
          exact setRow_heap _ _ _ _ _ _ HL.out.b2)
end Go.Proofs.YtbaahbpianingaaDoor
namespace Go.Proofs.YtbaahbpianingaaDoor
open Go Go.Proofs Go.RowKit
open Acc (Dk red five)
set_option maxHeartbeats 12800000
set_option maxRecDepth 100000
theorem runG_one2 (s : Dk) : (runG s 1).2.2 = faultD s := by
  unfold runG
  by_cases h : faultD s = (0, 0)
  · rw [if_pos h, if_pos (by decide), h]
  · rw [if_neg h]
theorem wpList_buildSg {w : World} {ops : Array Oper} {rest : List Oper} {o : Oper} {a : Act} {Q : Exit → Act → World → Prop} (hw : Region.wanted o (yielded ops a.tmps) = true) (ho : o.op = .build 25 #[])
    (h : wpList Tryd.prog ops Q rest (a.put o.dst (.agg zeroDk)) w) : wpList Tryd.prog ops Q (o :: rest) a w := by
  refine wpList_step fun K hK => ?_
  rw [if_pos hw]
  have hr : (Instr.build 25 #[]).run Tryd.prog w = .ok (.agg zeroDk) w := by kernel_rfl
  unfold Oper.wp execOp
  simp only [ho, List.map_toArray, List.map_nil, Sem.run_bind, hr, Sem.run_pure, Result.andThen_ok]
  exact hK _ _ h
theorem step_load_rowg {P : Program} {W : World} {ops : Array Oper} {o : Oper} {a : Act} {K : Act → World → Prop} {Q : Exit → Act → World → Prop} {E : Prop} (hw : Region.wanted o (yielded ops a.tmps) = true) (ty : TypeId) (x : Operand) (ho : o.op = .load ty x)
    (g : Nat) (hx : a.eval x = .pointer (some ⟨g, 0, none⟩)) (t : TypeId) (cs : Array Value) (fr : Nat × Nat) (d : TypeDesc) (hg : W.heap[g]? = some (.cells cs t fr))
    (hu : P.underlying ty = some d) (hd : (match d with | .struct _ | .array _ _ => true | _ => false) = true) (hi : (P.info? ty).map (·.size) = some cs.size)
    (h : K (a.put o.dst (.agg cs)) W) : if Region.wanted o (yielded ops a.tmps) = true then Oper.wp P o a W K Q else E := by
  rw [if_pos hw]
  exact wp_load_row ty x ho g hx t cs fr d hg hu hd hi h
theorem step_callg {P : Program} {W : World} {ops : Array Oper} {o : Oper} {a : Act} {K : Act → World → Prop} {Q : Exit → Act → World → Prop} {E : Prop} (hw : Region.wanted o (yielded ops a.tmps) = true) (f : FuncId) (args : List Operand) (ts : Array TypeId)
    (ho : o.op = .call { callee := .value (.func f), args := args.toArray, argTypes := ts }) (vs : List Value) (hvs : args.map a.eval = vs) (hf : ∀ W : World, (callFunc f vs.toArray).run P W = .ok (.enter f vs.toArray) W) {R : Ending → World → Prop} (hc : Calls P f vs.toArray W R)
    (h : ∀ e w', R e w' → ∃ v, e = .returned v ∧ K (a.put o.dst v) w') : if Region.wanted o (yielded ops a.tmps) = true then Oper.wp P o a W K Q else E := by
  rw [if_pos hw]
  unfold Oper.wp
  have hr : (execOp a.eval o).run P W = .ok (.enter f vs.toArray) W := by
    rw [← hf W, ← hvs]
    simp [execOp, ho, resolve, Deferred.ofValue, Act.eval, invoke]
  rw [hr]
  exact hc.mono fun e w' hR => by
    obtain ⟨v, rfl, hk⟩ := h e w' hR
    exact hk
theorem dk_any {w F : World} {c : Array Value} {s : Dk} (h : DkIs w c s) (hi : s.input = []) (ho : s.output = []) : DkIs F c s := by
  have sl : ∀ {k : IntKind} {o : Option Value} {l : List Int}, l = [] → SlAt w k o l → SlAt F k o l := fun he hs => by
    subst he
    obtain ⟨A, c, h1, h2, h3, h4, _⟩ := hs
    exact ⟨A, c, h1, h2, h3, h4, SlC.nil _ _⟩
  exact ⟨h.size, h.words, h.at_, h.a, h.q, h.x, h.ov, sl hi h.input, sl ho h.output, h.stop, h.wf⟩
theorem dk0_any {w F : World} {c : Array Value} (h : DkIs w c dk0) : DkIs F c dk0 := dk_any h rfl rfl
theorem asgS (w1 : World) {cs' : Array Value} {s : Dk} (h : DkIs w1 cs' s) : Var ((w1.alloc (.cells zeroDk 25)).setRow w1.heap.size cs') w1.heap.size cs' s ∧ Ext w1 ((w1.alloc (.cells zeroDk 25)).setRow w1.heap.size cs') :=
  have x : Ext w1 ((w1.alloc (.cells zeroDk 25)).setRow w1.heap.size cs') := ((Ext.refl w1).alloc _).setRow (Nat.le_refl _) _
  ⟨⟨setRow_heap _ _ _ _ _ _ (heap_alloc_new w1 _), h.ext x⟩, x⟩
/-- The words so far. -/
def begW (l : List Int) (k : Nat) : Dk := { dk0 with words := l.take k ++ List.replicate (100 - k) 0 }
theorem begW_zero (l : List Int) : begW l 0 = dk0 := by unfold begW; simp [dk0]
theorem begW_succ {l : List Int} {k : Nat} {x : Int} (hx : l[k]? = some x) (hk : k < 100) : { begW l k with words := (begW l k).words.set k x } = begW l (k + 1) := by
  have hl := (List.getElem?_eq_some_iff.1 hx)
  have hkl := hl.1
  have ht : (l.take k).length = k := by rw [List.length_take]; omega
  have e : (l.take k ++ List.replicate (100 - k) (0 : Int)).set k x = l.take (k + 1) ++ List.replicate (100 - (k + 1)) 0 := by
    rw [List.set_append_right _ _ (by omega), ht, Nat.sub_self, show 100 - k = (100 - (k + 1)) + 1 by omega, List.replicate_succ, List.set_cons_zero, List.take_succ_eq_append_getElem hl.1, hl.2, List.append_assoc]
    rfl
  unfold begW
  simp only [e]
theorem faultW_nz {l : List Int} {c i : Int} (h : faultW l = (c, i)) (h0 : faultW l ≠ (0, 0)) : c ≠ 0 := by
  intro hc
  subst hc
  obtain ⟨h1, _, _⟩ := faultW_code h rfl
  subst h1
  exact h0 h
theorem match_c (cs : Array Value) (s : Dk) (A B : Option Addr) (l m : List Int) (c d : Nat) (n : Int) (w : World) (h : DkIs w cs s) (ht : Tabs w) (hl : l.length ≤ maxLen) (hm : m.length ≤ maxLen) (hmd : m.length ≤ d) (hdm : d ≤ maxLen) (bm : Byt m) (h1 : Sl w .i64 A l) (h2 : Sl w .u8 B m) (hA : A = none → c = 0) (hB : B = none → d = 0) :
    Calls Tryd.prog 3 #[.agg cs, .slice A l.length c, .slice B m.length d, .int .i64 n] w (BRet w true) := by
  have HT := Lib.hid ht
  have H2 := Lib.hid (tabs_two ht)
  have HH := Lib.hid h
  have HS := Lib.hid h.size
  have HST := Lib.hid (fun W (x : Ext w W) => start_all A B l m c d W hl hm (h1.ext x) hA bm (h2.ext x) hB)
  have HSB := Lib.hid (fun W (x : Ext w W) => (⟨B, d, rfl, hmd, hdm, hB, h2.ext x⟩ : SlAt W .u8 (some (.slice B m.length d)) m))
  have HWF := Lib.hid (fun W (x : Ext w W) => WordsFault_c A l c W hl (h1.ext x))
  have HBM := Lib.hid bm
  have H1 := Lib.hid h1
  unfold maxLen at hl hm
  obtain ⟨ss, fc, fi, hst⟩ : ∃ ss fc fi, startG l m = (ss, (fc, fi)) := ⟨_, _, _, rfl⟩
  have HG := Lib.hid hst
  obtain ⟨wc0, wi0, hwf⟩ : ∃ c i, faultW l = (c, i) := ⟨_, _, rfl⟩
  have HWE := Lib.hid hwf
  obtain ⟨q, hq⟩ : ∃ q, q = l.length := ⟨_, rfl⟩
  have HQ := Lib.hid hq
  obtain ⟨mq, hmq⟩ : ∃ mq, mq = m.length := ⟨_, rfl⟩
  have HMQ := Lib.hid hmq
  have HSB2 : Hid (∀ W, Ext w W → SlAt W .u8 (some (.slice B mq d)) m) := Lib.hid (fun W x => by rw [hmq]; exact HSB.out W x)
  rw [← hq] at hl ⊢
  rw [← hmq] at hm ⊢
  clear ht h hmd hdm bm h1 h2 hA hB hst hwf hq hmq
  go_enter Tryd.func3, Tryd.ntmps3
  go_upto_region 0 with (fail)
  go_cut [4] (fun s4 wx => s4 = .pointer (some ⟨w.heap.size, 0, none⟩) ∧ Var wx w.heap.size cs s ∧ Ext w wx)
  case first =>
    go_wp2_with fail
    go_meet
    exact ⟨rfl, var_box w cs s HH.out, (Ext.refl w).alloc _⟩
  obtain ⟨rfl, hv, hx⟩ := hcut
  have HV := Lib.hid hv
  have HX := Lib.hid hx
  have hlt4 : w.heap.size < wc.heap.size := (Array.getElem?_eq_some_iff.1 hv.g).1
  clear hv hx
  obtain ⟨wa, rfl⟩ : ∃ wa : World, wa = wc := ⟨_, rfl⟩
  go_upto_region 1 with (fail)
  go_cut [9, 10] (fun s9 s10 wx => ∃ g9 c9, s9 = .pointer (some ⟨g9, 0, none⟩) ∧ s10 = .pointer (some ⟨g9 + 1, 0, none⟩) ∧ Var wx g9 c9 ss ∧ wx.heap[g9 + 1]? = some (.cells #[.int .i64 fc, .int .i64 fi] 28 (0, 0)) ∧ Ext wa wx)
  case first =>
    have hr := HST.out wa HX.out
    rw [← HQ.out, ← HMQ.out] at hr
    have HR := Lib.hid hr
    clear hr
    go_wp2_with fail
    refine HR.out.mono ?_
    rw [HG.out]
    rintro e w2 ⟨cs', rfl, hst, hx1⟩
    have HA := Lib.hid (asg_mk w2 hst.st fc fi)
    have HS2 := Lib.hid hst.st.size
    have HO := Lib.hid (dk_one hst.st)
    have HX1 := Lib.hid hx1
    have H28 := Lib.hid (heap_alloc2_old w2 (.cells zeroDk 25) (.cells #[.int .i64 0, .int .i64 0] 28))
    have H30 := Lib.hid ((setRow_other _ w2.heap.size (w2.heap.size + 1) cs' (by omega)).trans (heap_alloc2_new w2 (.cells zeroDk 25) (.cells #[.int .i64 0, .int .i64 0] 28)))
    clear hst hx1
    simp only [fAgg]
    go_wp2_with (first | refine wpList_allocS rfl rfl ?_ | refine wpList_store_row rfl 25 _ _ rfl w2.heap.size cs' rfl rfl 25 zeroDk H28.out (by rw [HS2.out]; exact sizeS) (by rw [HS2.out]; rfl) HO.out ?_ | refine wpList_store_row rfl 28 _ _ rfl (w2.heap.size + 1) #[.int .i64 fc, .int .i64 fi] rfl rfl 28 _ H30.out sizeF rfl (by kernel_rfl) ?_)
    go_meet
    exact ⟨_, cs', rfl, rfl, HA.out.v, HA.out.f, HX1.out.trans HA.out.x⟩
  obtain ⟨g9, c9, rfl, rfl, hv9, hf9, hx9⟩ := hcut
  obtain ⟨wb, rfl⟩ : ∃ wb : World, wb = wc := ⟨_, rfl⟩
  have HV9 := Lib.hid hv9
  have HF9 := Lib.hid hf9
  have HXB := Lib.hid (HX.out.trans hx9)
  have HVB := Lib.hid (HV.out.ext hx9)
  clear hv9 hf9 hx9
  go_upto_region 2 with (fail)
  go_cut [11] (fun s11 wx => ∃ g11, s11 = .pointer (some ⟨g11, 0, none⟩) ∧ wx.heap[g11]? = some (.cells #[.int .i64 wc0, .int .i64 wi0] 28 (0, 0)) ∧ Ext wb wx ∧ wb.heap.size ≤ g11)
  case first =>
    have hr := HWF.out wb HXB.out
    rw [← HQ.out, HWE.out] at hr
    have HR := Lib.hid hr
    clear hr
    go_wp2_with fail
    refine HR.out.mono ?_
    rintro e w2 ⟨rfl, hx1⟩
    have HX1 := Lib.hid hx1
    have H30 := Lib.hid (heap_alloc_new w2 (.cells #[.int .i64 0, .int .i64 0] 28))
    clear hx1
    simp only [fAgg]
    go_wp2_with (refine wpList_store_row rfl 28 _ _ rfl w2.heap.size #[.int .i64 wc0, .int .i64 wi0] rfl rfl 28 _ H30.out sizeF rfl (by kernel_rfl) ?_)
    go_meet
    exact ⟨_, rfl, setRow_heap _ _ _ _ _ _ H30.out, HX1.out.trans (((Ext.refl w2).alloc _).setRow (Nat.le_refl _) _), HX1.out.size⟩
  obtain ⟨g11, rfl, hb11, hxd, hg11⟩ := hcut
  obtain ⟨wd, rfl⟩ : ∃ wd : World, wd = wc := ⟨_, rfl⟩
  have HXD := Lib.hid hxd
  have HB11 := Lib.hid hb11
  have hlt11 : g11 < wd.heap.size := (Array.getElem?_eq_some_iff.1 hb11).1
  have k0 : wd.cell? ⟨g11, 0, none⟩ = some (.int .i64 wc0) := blk_cell hb11 0
  clear hxd hb11
  go_upto_region 3 with (fail)
  go_cut [39] (fun s39 wx => ∃ b : Bool, s39 = .bool b ∧ Hid (b = (decide (wc0 = 0) && decide (1000 < mq))) ∧ wd = wx)
  case first =>
    by_cases q1 : wc0 = 0
    · have e1 : (wc0 == 0) = true := by simpa using q1
      by_cases q2 : 1000 < mq
      · go_wp2_with fail
        go_meet
        exact ⟨true, by simp; omega, Lib.hid (by simp [q1]; omega), rfl⟩
      · go_wp2_with fail
        go_meet
        exact ⟨false, by simp; omega, Lib.hid (by simp; omega), rfl⟩
    · have e1 : (wc0 == 0) = false := by simpa using q1
      go_wp2_with fail
      go_meet
      exact ⟨false, rfl, Lib.hid (by simp [q1]), rfl⟩
  obtain ⟨b39, rfl, hb39, rfl⟩ := hcut
  go_upto_if 39 with (fail)
  go_cut [] (fun wx => wx.heap[g11]? = some (.cells #[.int .i64 fc, .int .i64 fi] 28 (0, 0)) ∧ Ext wb wx ∧ g11 < wx.heap.size)
  case first =>
    by_cases hf : faultW l = (0, 0)
    · have hw0 : wc0 = 0 := by have := HWE.out; rw [hf] at this; cases this; rfl
      have hw1 : wi0 = 0 := by have := HWE.out; rw [hf] at this; cases this; rfl
      subst hw0 hw1
      by_cases q2 : 1000 < mq
      · have HE : Hid (fc = 3 ∧ fi = -2) := Lib.hid (by
          have := HG.out; unfold startG at this; rw [if_pos hf, if_pos (by rw [← HMQ.out]; exact q2)] at this; cases this; exact ⟨rfl, rfl⟩)
        have HL4 := Lib.hid (ext_heap ((Ext.refl wd).alloc (.cells #[.int .i64 3, .int .i64 (-2)] 28)) HB11.out)
        have hbt : b39 = true := by rw [hb39.out]; simp; omega
        subst hbt
        clear hf hb39
        go_wp2_with (first | (go_at_call 14; refine (At_c _ _ _).mono ?_; rintro e w' ⟨rfl, rfl⟩) | refine wpList_store_row rfl 28 _ _ rfl g11 #[.int .i64 3, .int .i64 (-2)] rfl rfl 28 _ HL4.out sizeF rfl (by kernel_rfl) ?_)
        go_meet
        obtain ⟨e1, e2⟩ := HE.out
        rw [e1, e2]
        exact ⟨setRow_heap _ _ _ _ _ _ HL4.out, (HXD.out.alloc _).setRow hg11 _, by have := (Array.getElem?_eq_some_iff.1 HL4.out).1; simpa [World.setRow] using this⟩
      · have HE : Hid (fc = 0 ∧ fi = 0) := Lib.hid (by
          have := HG.out; unfold startG at this; rw [if_pos hf, if_neg (by rw [← HMQ.out]; exact q2)] at this; cases this; exact ⟨rfl, rfl⟩)
        have hbt : b39 = false := by rw [hb39.out]; simp; omega
        subst hbt
        clear hf hb39
        go_wp2_with fail
        go_meet
        obtain ⟨e1, e2⟩ := HE.out
        rw [e1, e2]
        exact ⟨HB11.out, HXD.out, hlt11⟩
    · have hne : (wc0 == 0) = false := by simpa using faultW_nz HWE.out hf
      have HE : Hid (fc = wc0 ∧ fi = wi0) := Lib.hid (by
        have := HG.out; unfold startG at this; rw [if_neg hf, HWE.out] at this; cases this; exact ⟨rfl, rfl⟩)
      have hbt : b39 = false := by rw [hb39.out]; have := faultW_nz HWE.out hf; simp [this]
      subst hbt
      clear hf hb39
      go_wp2_with fail
      go_meet
      obtain ⟨e1, e2⟩ := HE.out
      rw [e1, e2]
      exact ⟨HB11.out, HXD.out, hlt11⟩
  clear hb39
  obtain ⟨hb11, hxe, hlt11b⟩ := hcut
  obtain ⟨we, rfl⟩ : ∃ we : World, we = wc := ⟨_, rfl⟩
  have HXE := Lib.hid hxe
  have HB11 := Lib.hid hb11
  clear hxe hb11 k0
  go_upto_region 5 with (fail)
  go_cut [12] (fun s12 wx => ∃ g12, s12 = .pointer (some ⟨g12, 0, none⟩) ∧ wx.heap[g12]? = some (.cells zeroDk 25 (0, 0)) ∧ Ext we wx ∧ we.heap.size ≤ g12)
  case first =>
    have H28 := Lib.hid (heap_alloc_new we (.cells zeroDk 25))
    go_wp2_with (first | refine wpList_buildS rfl rfl ?_ | refine wpList_allocS rfl rfl ?_ | refine wpList_store_row rfl 25 _ _ rfl we.heap.size zeroDk rfl rfl 25 zeroDk H28.out sizeS rfl zero_one ?_)
    go_meet
    exact ⟨_, rfl, setRow_heap _ _ _ _ _ _ H28.out, ((Ext.refl we).alloc _).setRow (Nat.le_refl _) _, Nat.le_refl _⟩
  obtain ⟨g12, rfl, hb12, hxf, hg12⟩ := hcut
  obtain ⟨wf, rfl⟩ : ∃ wf : World, wf = wc := ⟨_, rfl⟩
  have HXF := Lib.hid hxf
  have HB12 := Lib.hid hb12
  have hlt12 : g12 < wf.heap.size := (Array.getElem?_eq_some_iff.1 hb12).1
  clear hxf hb12
  have HFC : Hid (fc = 0 → q ≤ 100 ∧ ∀ x ∈ l, five x = true) := Lib.hid (fun hfc => by
    have hfw : faultW l = (0, 0) := by
      by_cases hf : faultW l = (0, 0)
      · exact hf
      · have := HG.out; unfold startG at this; rw [if_neg hf, HWE.out] at this; cases this; exact absurd hfc (faultW_nz HWE.out hf)
    obtain ⟨-, hl100, hl5⟩ := faultW_code hfw rfl
    exact ⟨by rw [HQ.out]; exact hl100, hl5⟩)
  go_wp2_with fail
  go_loopw [13] (fun t13 wx => ∃ k : Nat, ∃ cb, k ≤ q ∧ t13 = .int .i64 k ∧ wx.heap[g12]? = some (.cells cb 25 (0, 0)) ∧ DkIs wx cb (begW l k) ∧ Ext we wx ∧ Hid (fc ≠ 0 → k = 0)) (fun t13 _ => q - (intOf t13).toNat)
  case atStart => exact ⟨0, zeroDk, Nat.zero_le _, rfl, HB12.out, by rw [begW_zero]; exact zero_is _, HXF.out, Lib.hid (fun _ => rfl)⟩
  case round =>
  obtain ⟨k, cb, hk, rfl, hb, hd, hx, hfk⟩ := hrel
  have k11 : wr.cell? ⟨g11, 0, none⟩ = some (.int .i64 fc) := blk_cell (ext_heap hx HB11.out) 0
  have HBB := Lib.hid hb
  have HDD := Lib.hid hd
  have HXX := Lib.hid hx
  clear hb hd hx
  go_upto_region 7 with (fail)
  go_cut [50] (fun s50 wx => ∃ b : Bool, s50 = .bool b ∧ Hid (b = (decide (k < q) && decide (fc = 0))) ∧ wr = wx)
  case first =>
    by_cases q1 : k < q
    · by_cases q2 : fc = 0
      · have e1 : (fc == 0) = true := by simpa using q2
        go_wp2_with fail
        go_meet
        exact ⟨true, by simp, Lib.hid (by simp [q1, q2]), rfl⟩
      · have e1 : (fc == 0) = false := by simpa using q2
        go_wp2_with fail
        go_meet
        exact ⟨false, by simp, Lib.hid (by simp [q2]), rfl⟩
    · go_wp2_with fail
      go_meet
      exact ⟨false, by simp, Lib.hid (by simp [q1]), rfl⟩
  obtain ⟨b50, rfl, hb50, rfl⟩ := hcut
  cases b50 with
  | true =>
    have hgo : k < q ∧ fc = 0 := by have := hb50.out; simpa using this.symm
    obtain ⟨hlt, hfc⟩ := hgo
    obtain ⟨hq100, hl5⟩ := HFC.out hfc
    have HL5 := Lib.hid hl5
    clear hl5 hb50
    obtain ⟨bb, o, x, rfl, hx5, ka⟩ := (H1.out.ext (HXB.out.trans (HXE.out.trans HXX.out))).at2 (i := k) (by rw [← HQ.out]; exact hlt)
    have hbne : ¬ bb = g12 := by
      obtain ⟨b1, o1, x1, e1, _, c1⟩ := H1.out.at2 (i := k) (by rw [← HQ.out]; exact hlt)
      cases e1
      have := World.block_lt_of_cell? w _ c1
      have h1 := HXB.out.size
      have h2 := HXE.out.size
      simp only at this
      omega
    have hbne2 : ¬ g12 = bb := fun e => hbne e.symm
    obtain ⟨y, hy⟩ : ∃ y, cb[k]? = some (.int .i64 y) := ⟨_, HDD.out.words k (by omega)⟩
    have ky : wr.cell? ⟨g12, k, none⟩ = some (.int .i64 y) := (blk_cell HBB.out k).trans hy
    have zy := blk_frozen HBB.out k
    have hltw : g12 < wr.heap.size := (Array.getElem?_eq_some_iff.1 HBB.out).1
    have HN := Lib.hid (word_set HDD.out (by omega : k < 100) (five_i64 (HL5.out x (List.mem_of_getElem? hx5.out))))
    have HBS := Lib.hid (heap_set_self HBB.out k (.int .i64 x))
    have HX2 := Lib.hid (Ext.setCell (p := ⟨g12, k, none⟩) HXX.out hg12 (.int .i64 x))
    have HSUC := Lib.hid (begW_succ hx5.out (by omega : k < 100))
    have HF0 := Lib.hid hfc
    have i1 : (k : Int) < 100 := by omega
    clear hy hfc
    go_wp2_with fail
    go_roundw
    case rel => exact ⟨k + 1, _, by omega, by go_num, HBS.out, by rw [← HSUC.out]; exact dk_any HN.out rfl rfl, HX2.out, Lib.hid (fun h => absurd HF0.out h)⟩
    case measure => simp [intOf]; omega
  | false =>
  have hd12' : DkIs wr cb (if fc = 0 then begW l l.length else dk0) := by
    by_cases hfc : fc = 0
    · have : k = l.length := by have := hb50.out; simp [hfc] at this; rw [← HQ.out]; omega
      rw [if_pos hfc, ← this]; exact HDD.out
    · rw [if_neg hfc, ← begW_zero l, ← hfk.out hfc]; exact HDD.out
  have HB12 := Lib.hid HBB.out
  have HXG := Lib.hid HXX.out
  have HD12 := Lib.hid hd12'
  obtain ⟨wg, rfl⟩ : ∃ wg : World, wg = wr := ⟨_, rfl⟩
  clear hd12' hb50 HBB HDD HXX
  go_upto_if 62 with (fail)
  go_cut [] (fun wx => ∃ cb, wx.heap[g12]? = some (.cells cb 25 (0, 0)) ∧ DkIs wx cb ss ∧ Ext we wx)
  case first =>
    by_cases hfc : fc = 0
    · have hss : ss = { begW l l.length with input := m } := by
        have := HG.out
        unfold startG at this
        by_cases hf : faultW l = (0, 0)
        · rw [if_pos hf] at this
          by_cases hm2 : 1000 < m.length
          · rw [if_pos hm2] at this; cases this; exact absurd hfc (by decide)
          · rw [if_neg hm2] at this; cases this
            unfold begW
            rw [List.take_length]
        · rw [if_neg hf, HWE.out] at this; cases this; exact absurd hfc (faultW_nz HWE.out hf)
      have HSS := Lib.hid hss
      have hd := HD12.out
      rw [if_pos hfc] at hd
      have z5 := blk_frozen HB12.out 105
      obtain ⟨A5, c5, e5, -, -, -, -⟩ := hd.input
      have k5 : wg.cell? ⟨g12, 105, none⟩ = some (.slice A5 (begW l l.length).input.length c5) := (blk_cell HB12.out 105).trans e5
      have hltw : g12 < wg.heap.size := (Array.getElem?_eq_some_iff.1 HB12.out).1
      have HBS := Lib.hid (heap_set_self HB12.out 105 (.slice B mq d))
      have HX2 := Lib.hid (Ext.setCell (p := ⟨g12, 105, none⟩) HXG.out hg12 (.slice B mq d))
      have hsb := HSB2.out (wg.setCell ⟨g12, 105, none⟩ (.slice B mq d)) (HXB.out.trans (HXE.out.trans HX2.out))
      have HN := Lib.hid (in_set (dk_any (F := wg.setCell ⟨g12, 105, none⟩ (.slice B mq d)) hd rfl rfl) hsb HBM.out)
      clear hss hd e5 hsb
      subst hfc
      go_wp2_with fail
      go_meet
      exact ⟨_, HBS.out, by rw [HSS.out]; exact HN.out, HX2.out⟩
    · have hne : (fc == 0) = false := by simpa using hfc
      have hss : ss = dk0 := by
        have := HG.out
        unfold startG at this
        by_cases hf : faultW l = (0, 0)
        · rw [if_pos hf] at this
          by_cases hm2 : 1000 < m.length
          · rw [if_pos hm2] at this; cases this; rfl
          · rw [if_neg hm2] at this; cases this; exact absurd rfl hfc
        · rw [if_neg hf] at this; injection this with h1 _; exact h1.symm
      have HSS := Lib.hid hss
      have hd := HD12.out
      rw [if_neg hfc] at hd
      have HDD := Lib.hid hd
      clear hd hss hfc
      go_wp2_with fail
      go_meet
      exact ⟨cb, HB12.out, by rw [HSS.out]; exact HDD.out, HXG.out⟩
  obtain ⟨cb, hb12, hd12, hxg⟩ := hcut
  obtain ⟨wg2, rfl⟩ : ∃ wg2 : World, wg2 = wc := ⟨_, rfl⟩
  have HXG2 := Lib.hid (HXE.out.trans hxg)
  have HBB := Lib.hid hb12
  have HDD := Lib.hid hd12
  have HZB := Lib.hid hd12.size
  have HV9G := Lib.hid (HV9.out.ext HXG2.out)
  have HZ9 := Lib.hid HV9.out.st.size
  have a0 : wg2.cell? ⟨g11, 0, none⟩ = some (.int .i64 fc) := blk_cell (ext_heap hxg HB11.out) 0
  have a1 : wg2.cell? ⟨g11, 1, none⟩ = some (.int .i64 fi) := blk_cell (ext_heap hxg HB11.out) 1
  have a2 : wg2.cell? ⟨g9 + 1, 0, none⟩ = some (.int .i64 fc) := blk_cell (ext_heap HXG2.out HF9.out) 0
  have a3 : wg2.cell? ⟨g9 + 1, 1, none⟩ = some (.int .i64 fi) := blk_cell (ext_heap HXG2.out HF9.out) 1
  have HVG := Lib.hid (HVB.out.ext HXG2.out)
  have HXGW := Lib.hid (HXB.out.trans HXG2.out)
  clear hxg hb12 hd12 k11
  go_upto_region 12 with (fail)
  go_cut [73] (fun s73 wx => s73 = .bool false ∧ Var wx w.heap.size cs s ∧ Ext w wx)
  case first =>
    go_wp2_with (first | refine wpList_load_rowg (by rfl) 25 _ rfl g9 (by rfl) 25 c9 (0, 0) _ HV9G.out.g Tryd.underlying25 rfl (by rw [HZ9.out]; exact sizeS) ?_ | refine wpList_load_rowg (by rfl) 25 _ rfl g12 (by rfl) 25 cb (0, 0) _ HBB.out Tryd.underlying25 rfl (by rw [HZB.out]; exact sizeS) ?_)
    refine (same_c c9 cb ss ss wg2 HV9G.out.st HDD.out).mono ?_
    rw [(sameB_iff _ _).2 rfl]
    rintro e w9 ⟨rfl, hx9⟩
    have HX9 := Lib.hid hx9
    clear hx9
    go_wp2_with fail
    go_meet
    exact ⟨rfl, HVG.out.ext HX9.out, HXGW.out.trans HX9.out⟩
  obtain ⟨rfl, hvh, hxh⟩ := hcut
  obtain ⟨wh, rfl⟩ : ∃ wh : World, wh = wc := ⟨_, rfl⟩
  have HVH := Lib.hid hvh
  have HXH := Lib.hid hxh
  clear hvh hxh a0 a1 a2 a3
  go_upto_region 14 with (fail)
  obtain ⟨T, tn, tc, ti, hrt⟩ : ∃ T tn tc ti, runG s n = (T, tn, (tc, ti)) := ⟨_, _, _, _, rfl⟩
  have HRT := Lib.hid hrt
  clear hrt
  have HTH := Lib.hid (HT.out.below HXH.out H2.out)
  go_cut [14, 15, 16] (fun s13 s14 s15 wx => ∃ g' cs', s13 = .pointer (some ⟨g', 0, none⟩) ∧ s14 = .int .i64 tn ∧ s15 = .pointer (some ⟨g' + 1, 0, none⟩) ∧ Var wx g' cs' T ∧ wx.heap[g' + 1]? = some (.cells #[.int .i64 tc, .int .i64 ti] 28 (0, 0)) ∧ Ext wh wx)
  case first =>
    have HR := Lib.hid (run_all cs s n wh HVH.out.st HTH.out (Nat.le_trans H2.out HXH.out.size))
    go_wp2_with (refine wpList_load_row rfl 25 _ rfl w.heap.size rfl 25 cs (0, 0) _ HVH.out.g Tryd.underlying25 rfl (by rw [HS.out]; exact sizeS) ?_)
    refine HR.out.mono ?_
    rw [HRT.out]
    rintro e w1 ⟨cs', rfl, hst, hx1⟩
    have HA := Lib.hid (asg_mk w1 hst.st tc ti)
    have HS2 := Lib.hid hst.st.size
    have HO := Lib.hid (dk_one hst.st)
    have HX1 := Lib.hid hx1
    have H28 := Lib.hid (heap_alloc2_old w1 (.cells zeroDk 25) (.cells #[.int .i64 0, .int .i64 0] 28))
    have H30 := Lib.hid ((setRow_other _ w1.heap.size (w1.heap.size + 1) cs' (by omega)).trans (heap_alloc2_new w1 (.cells zeroDk 25) (.cells #[.int .i64 0, .int .i64 0] 28)))
    clear hst hx1
    simp only [fAgg]
    go_wp2_with (first | refine wpList_allocS rfl rfl ?_ | refine wpList_store_row rfl 25 _ _ rfl w1.heap.size cs' rfl rfl 25 zeroDk H28.out (by rw [HS2.out]; exact sizeS) (by rw [HS2.out]; rfl) HO.out ?_ | refine wpList_store_row rfl 28 _ _ rfl (w1.heap.size + 1) #[.int .i64 tc, .int .i64 ti] rfl rfl 28 _ H30.out sizeF rfl (by kernel_rfl) ?_)
    go_meet
    exact ⟨_, cs', rfl, rfl, rfl, HA.out.v, HA.out.f, HX1.out.trans HA.out.x⟩
  obtain ⟨g13, c13, rfl, rfl, rfl, hv13, hf13, hx13⟩ := hcut
  obtain ⟨wi, rfl⟩ : ∃ wi : World, wi = wc := ⟨_, rfl⟩
  have HV13 := Lib.hid hv13
  have HF13 := Lib.hid hf13
  have HXI := Lib.hid (HXH.out.trans hx13)
  have HVI := Lib.hid (HVH.out.ext hx13)
  clear hv13 hf13 hx13
  obtain ⟨U, un, uc, ui, hru⟩ : ∃ U un uc ui, runG s 1 = (U, un, (uc, ui)) := ⟨_, _, _, _, rfl⟩
  have HRU := Lib.hid hru
  have HUF : Hid (faultD s = (uc, ui)) := by
    show _ = _
    rw [← runG_one2 s, hru]
  clear hru
  have HTI := Lib.hid (HT.out.below HXI.out H2.out)
  go_upto_region 15 with (fail)
  go_cut [17, 18] (fun s16 s17 wx => ∃ g' cs', s16 = .pointer (some ⟨g', 0, none⟩) ∧ s17 = .pointer (some ⟨g' + 1, 0, none⟩) ∧ Var wx g' cs' U ∧ wx.heap[g' + 1]? = some (.cells #[.int .i64 uc, .int .i64 ui] 28 (0, 0)) ∧ Ext wi wx)
  case first =>
    have HR := Lib.hid (step_go cs s wi HVI.out.st HTI.out (Nat.le_trans H2.out HXI.out.size))
    go_wp2_with (refine wpList_load_row rfl 25 _ rfl w.heap.size rfl 25 cs (0, 0) _ HVI.out.g Tryd.underlying25 rfl (by rw [HS.out]; exact sizeS) ?_)
    refine HR.out.mono ?_
    rw [HRU.out]
    rintro e w1 ⟨cs', rfl, hst, hx1⟩
    have HA := Lib.hid (asg_mk w1 hst.st uc ui)
    have HS2 := Lib.hid hst.st.size
    have HO := Lib.hid (dk_one hst.st)
    have HX1 := Lib.hid hx1
    have H28 := Lib.hid (heap_alloc2_old w1 (.cells zeroDk 25) (.cells #[.int .i64 0, .int .i64 0] 28))
    have H30 := Lib.hid ((setRow_other _ w1.heap.size (w1.heap.size + 1) cs' (by omega)).trans (heap_alloc2_new w1 (.cells zeroDk 25) (.cells #[.int .i64 0, .int .i64 0] 28)))
    clear hst hx1
    simp only [fAgg]
    go_wp2_with (first | refine wpList_allocS rfl rfl ?_ | refine wpList_store_row rfl 25 _ _ rfl w1.heap.size cs' rfl rfl 25 zeroDk H28.out (by rw [HS2.out]; exact sizeS) (by rw [HS2.out]; rfl) HO.out ?_ | refine wpList_store_row rfl 28 _ _ rfl (w1.heap.size + 1) #[.int .i64 uc, .int .i64 ui] rfl rfl 28 _ H30.out sizeF rfl (by kernel_rfl) ?_)
    go_meet
    exact ⟨_, cs', rfl, rfl, HA.out.v, HA.out.f, HX1.out.trans HA.out.x⟩
  obtain ⟨g16, c16, rfl, rfl, hv16, hf16, hx16⟩ := hcut
  obtain ⟨wj, rfl⟩ : ∃ wj : World, wj = wc := ⟨_, rfl⟩
  have HV16 := Lib.hid hv16
  have HF16 := Lib.hid hf16
  have HXJ := Lib.hid (HXI.out.trans hx16)
  have HVJ := Lib.hid (HVI.out.ext hx16)
  have HV13J := Lib.hid (HV13.out.ext hx16)
  have HF13J := Lib.hid (ext_heap hx16 HF13.out)
  clear hv16 hf16 hx16
  go_upto_region 16 with (fail)
  go_cut [19] (fun s18 wx => ∃ g18, s18 = .pointer (some ⟨g18, 0, none⟩) ∧ wx.heap[g18]? = some (.cells #[.int .i64 uc, .int .i64 ui] 28 (0, 0)) ∧ Ext wj wx ∧ wj.heap.size ≤ g18)
  case first =>
    have HR := Lib.hid (DeckFault_c cs s wj HVJ.out.st)
    go_wp2_with (refine wpList_load_row rfl 25 _ rfl w.heap.size rfl 25 cs (0, 0) _ HVJ.out.g Tryd.underlying25 rfl (by rw [HS.out]; exact sizeS) ?_)
    refine HR.out.mono ?_
    rw [HUF.out]
    rintro e w2 ⟨rfl, hx1⟩
    have HX1 := Lib.hid hx1
    have H30 := Lib.hid (heap_alloc_new w2 (.cells #[.int .i64 0, .int .i64 0] 28))
    clear hx1
    simp only [fAgg]
    go_wp2_with (refine wpList_store_row rfl 28 _ _ rfl w2.heap.size #[.int .i64 uc, .int .i64 ui] rfl rfl 28 _ H30.out sizeF rfl (by kernel_rfl) ?_)
    go_meet
    first
      | exact ⟨_, rfl, setRow_heap _ _ _ _ _ _ H30.out, (HX1.out.trans ((Ext.refl w2).alloc _)).setRow HX1.out.size _, HX1.out.size⟩
      | exact ⟨_, rfl, heap_alloc_new w2 _, HX1.out.trans ((Ext.refl w2).alloc _), HX1.out.size⟩
  obtain ⟨g18, rfl, hb18, hx18, hg18⟩ := hcut
  obtain ⟨wk, rfl⟩ : ∃ wk : World, wk = wc := ⟨_, rfl⟩
  have HB18 := Lib.hid hb18
  have HXK := Lib.hid (HXJ.out.trans hx18)
  have HVK := Lib.hid (HVJ.out.ext hx18)
  have HV13K := Lib.hid (HV13J.out.ext hx18)
  have HF13K := Lib.hid (ext_heap hx18 HF13J.out)
  have HV16K := Lib.hid (HV16.out.ext hx18)
  have HF16K := Lib.hid (ext_heap hx18 HF16.out)
  clear hb18 hx18
  go_upto_region 17 with (fail)
  go_cut [100] (fun s80 wx => s80 = .bool false ∧ Ext wk wx)
  case first =>
    refine wp_region_any (by kernel_rfl) ?_
    refine wpAny_ready (rs := [0]) (by kernel_rfl) (by simp) ?_
    refine (AllReady.cons rfl (fun K hK => ?_) AllReady.nil)
    · refine step_callg (by simp [Region.wanted]) 19 [] #[] rfl [] rfl (fun W => by kernel_rfl) (decked_c wk.drew (HT.out.below HXK.out.drew H2.out) (Nat.le_trans H2.out HXK.out.drew.size)) ?_
      rintro e w1 ⟨rfl, hx1⟩
      refine ⟨_, rfl, hK _ _ ?_⟩
      clear hK K
      have HX1 := Lib.hid (((Ext.refl wk).drew).trans hx1)
      have HG1 := Lib.hid (ext_heap HX1.out HVK.out.g)
      have p0 : w1.cell? ⟨g18, 0, none⟩ = some (.int .i64 uc) := blk_cell (ext_heap HX1.out HB18.out) 0
      have p1 : w1.cell? ⟨g18, 1, none⟩ = some (.int .i64 ui) := blk_cell (ext_heap HX1.out HB18.out) 1
      have HVC := Lib.hid (Valid_c cs s w1 (HVK.out.st.ext HX1.out))
      clear hx1
      refine wpAny_ready (rs := [1]) (by kernel_rfl) (by simp) ?_
      refine (AllReady.cons rfl (fun K hK => ?_) AllReady.nil)
      · go_simp
        refine hK _ _ ?_
        clear hK K
        refine wpAny_ready (rs := [2]) (by kernel_rfl) (by simp) ?_
        refine (AllReady.cons rfl (fun K hK => ?_) AllReady.nil)
        · go_simp
          refine hK _ _ ?_
          clear hK K
          refine wpAny_ready (rs := [3, 5]) (by kernel_rfl) (by simp) ?_
          refine (AllReady.cons rfl (fun K hK => ?_) (AllReady.cons rfl (fun K hK => ?_) AllReady.nil))
          · refine step_load_rowg (by first | (simp [Region.wanted, yielded]; done) | simp [Region.wanted, yielded, Act.put]) 25 _ rfl w.heap.size (by first | (simp [Act.eval]; done) | simp [Act.eval, Act.put]) 25 cs (0, 0) _ HG1.out Tryd.underlying25 rfl (by rw [HS.out]; exact sizeS) ?_
            refine hK _ _ ?_
            clear hK K
            refine wpAny_ready (rs := [4, 5]) (by kernel_rfl) (by simp) ?_
            refine (AllReady.cons rfl (fun K hK => ?_) (AllReady.cons rfl (fun K hK => ?_) AllReady.nil))
            · refine step_callg (by first | (simp [Region.wanted, yielded]; done) | simp [Region.wanted, yielded, Act.put]) 20 [.tmp 91] #[25] rfl [.agg cs] (by first | (simp [Act.eval]; done) | simp [Act.eval, Act.put]) (fun W => by kernel_rfl) HVC.out ?_
              rw [HUF.out]
              rintro e w2 ⟨rfl, hx2⟩
              refine ⟨_, rfl, hK _ _ ?_⟩
              clear hK K
              simp only [fAgg]
              have HX2 := Lib.hid (HX1.out.trans hx2)
              have q0 : w2.cell? ⟨g18, 0, none⟩ = some (.int .i64 uc) := blk_cell (ext_heap HX2.out HB18.out) 0
              have q1 : w2.cell? ⟨g18, 1, none⟩ = some (.int .i64 ui) := blk_cell (ext_heap HX2.out HB18.out) 1
              have r0 : w2.cell? ⟨g16 + 1, 0, none⟩ = some (.int .i64 uc) := blk_cell (ext_heap HX2.out HF16K.out) 0
              have r1 : w2.cell? ⟨g16 + 1, 1, none⟩ = some (.int .i64 ui) := blk_cell (ext_heap HX2.out HF16K.out) 1
              clear hx2 p0 p1
              refine wpAny_ready (rs := [5]) (by kernel_rfl) (by simp) ?_
              refine (AllReady.cons rfl (fun K hK => ?_) AllReady.nil)
              · go_simp
                refine hK _ _ ?_
                clear hK K
                refine wpAny_ready (rs := [6]) (by kernel_rfl) (by simp) ?_
                refine (AllReady.cons rfl (fun K hK => ?_) AllReady.nil)
                · go_simp
                  refine hK _ _ ?_
                  clear hK K
                  refine wpAny_ready (rs := [7]) (by kernel_rfl) (by simp) ?_
                  refine (AllReady.cons rfl (fun K hK => ?_) AllReady.nil)
                  · go_simp
                    refine hK _ _ ?_
                    clear hK K
                    refine wpAny_ready (rs := [8]) (by kernel_rfl) (by simp) ?_
                    refine (AllReady.cons rfl (fun K hK => ?_) AllReady.nil)
                    · go_simp
                      refine hK _ _ ?_
                      clear hK K
                      refine wpAny_ready (rs := [9, 10]) (by kernel_rfl) (by simp) ?_
                      refine (AllReady.cons rfl (fun K hK => ?_) (AllReady.cons rfl (fun K hK => ?_) AllReady.nil))
                      · go_simp
                        refine hK _ _ ?_
                        clear hK K
                        refine wpAny_ready (rs := [10]) (by kernel_rfl) (by simp) ?_
                        refine (AllReady.cons rfl (fun K hK => ?_) AllReady.nil)
                        · go_simp
                          refine hK _ _ ?_
                          clear hK K
                          refine wpAny_ready (rs := [11]) (by kernel_rfl) (by simp) ?_
                          refine (AllReady.cons rfl (fun K hK => ?_) AllReady.nil)
                          · go_simp
                            refine hK _ _ ?_
                            clear hK K
                            refine wpAny_ready (rs := [12]) (by kernel_rfl) (by simp) ?_
                            refine (AllReady.cons rfl (fun K hK => ?_) AllReady.nil)
                            · go_simp
                              refine hK _ _ ?_
                              clear hK K
                              refine wpAny_done (by kernel_rfl) ?_ _
                              go_wp2_with fail
                              go_meet
                              exact ⟨rfl, HX2.out⟩
                      · go_simp
                        refine hK _ _ ?_
                        clear hK K
                        refine wpAny_ready (rs := [9]) (by kernel_rfl) (by simp) ?_
                        refine (AllReady.cons rfl (fun K hK => ?_) AllReady.nil)
                        · go_simp
                          refine hK _ _ ?_
                          clear hK K
                          refine wpAny_ready (rs := [11]) (by kernel_rfl) (by simp) ?_
                          refine (AllReady.cons rfl (fun K hK => ?_) AllReady.nil)
                          · go_simp
                            refine hK _ _ ?_
                            clear hK K
                            refine wpAny_ready (rs := [12]) (by kernel_rfl) (by simp) ?_
                            refine (AllReady.cons rfl (fun K hK => ?_) AllReady.nil)
                            · go_simp
                              refine hK _ _ ?_
                              clear hK K
                              refine wpAny_done (by kernel_rfl) ?_ _
                              go_wp2_with fail
                              go_meet
                              exact ⟨rfl, HX2.out⟩
            · go_simp
              refine hK _ _ ?_
              clear hK K
              refine wpAny_ready (rs := [4]) (by kernel_rfl) (by simp) ?_
              refine (AllReady.cons rfl (fun K hK => ?_) AllReady.nil)
              · refine step_callg (by first | (simp [Region.wanted, yielded]; done) | simp [Region.wanted, yielded, Act.put]) 20 [.tmp 91] #[25] rfl [.agg cs] (by first | (simp [Act.eval]; done) | simp [Act.eval, Act.put]) (fun W => by kernel_rfl) HVC.out ?_
                rw [HUF.out]
                rintro e w2 ⟨rfl, hx2⟩
                refine ⟨_, rfl, hK _ _ ?_⟩
                clear hK K
                simp only [fAgg]
                have HX2 := Lib.hid (HX1.out.trans hx2)
                have q0 : w2.cell? ⟨g18, 0, none⟩ = some (.int .i64 uc) := blk_cell (ext_heap HX2.out HB18.out) 0
                have q1 : w2.cell? ⟨g18, 1, none⟩ = some (.int .i64 ui) := blk_cell (ext_heap HX2.out HB18.out) 1
                have r0 : w2.cell? ⟨g16 + 1, 0, none⟩ = some (.int .i64 uc) := blk_cell (ext_heap HX2.out HF16K.out) 0
                have r1 : w2.cell? ⟨g16 + 1, 1, none⟩ = some (.int .i64 ui) := blk_cell (ext_heap HX2.out HF16K.out) 1
                clear hx2 p0 p1
                refine wpAny_ready (rs := [6]) (by kernel_rfl) (by simp) ?_
                refine (AllReady.cons rfl (fun K hK => ?_) AllReady.nil)
                · go_simp
                  refine hK _ _ ?_
                  clear hK K
                  refine wpAny_ready (rs := [7]) (by kernel_rfl) (by simp) ?_
                  refine (AllReady.cons rfl (fun K hK => ?_) AllReady.nil)
                  · go_simp
                    refine hK _ _ ?_
                    clear hK K
                    refine wpAny_ready (rs := [8]) (by kernel_rfl) (by simp) ?_
                    refine (AllReady.cons rfl (fun K hK => ?_) AllReady.nil)
                    · go_simp
                      refine hK _ _ ?_
                      clear hK K
                      refine wpAny_ready (rs := [9, 10]) (by kernel_rfl) (by simp) ?_
                      refine (AllReady.cons rfl (fun K hK => ?_) (AllReady.cons rfl (fun K hK => ?_) AllReady.nil))
                      · go_simp
                        refine hK _ _ ?_
                        clear hK K
                        refine wpAny_ready (rs := [10]) (by kernel_rfl) (by simp) ?_
                        refine (AllReady.cons rfl (fun K hK => ?_) AllReady.nil)
                        · go_simp
                          refine hK _ _ ?_
                          clear hK K
                          refine wpAny_ready (rs := [11]) (by kernel_rfl) (by simp) ?_
                          refine (AllReady.cons rfl (fun K hK => ?_) AllReady.nil)
                          · go_simp
                            refine hK _ _ ?_
                            clear hK K
                            refine wpAny_ready (rs := [12]) (by kernel_rfl) (by simp) ?_
                            refine (AllReady.cons rfl (fun K hK => ?_) AllReady.nil)
                            · go_simp
                              refine hK _ _ ?_
                              clear hK K
                              refine wpAny_done (by kernel_rfl) ?_ _
                              go_wp2_with fail
                              go_meet
                              exact ⟨rfl, HX2.out⟩
                      · go_simp
                        refine hK _ _ ?_
                        clear hK K
                        refine wpAny_ready (rs := [9]) (by kernel_rfl) (by simp) ?_
                        refine (AllReady.cons rfl (fun K hK => ?_) AllReady.nil)
                        · go_simp
                          refine hK _ _ ?_
                          clear hK K
                          refine wpAny_ready (rs := [11]) (by kernel_rfl) (by simp) ?_
                          refine (AllReady.cons rfl (fun K hK => ?_) AllReady.nil)
                          · go_simp
                            refine hK _ _ ?_
                            clear hK K
                            refine wpAny_ready (rs := [12]) (by kernel_rfl) (by simp) ?_
                            refine (AllReady.cons rfl (fun K hK => ?_) AllReady.nil)
                            · go_simp
                              refine hK _ _ ?_
                              clear hK K
                              refine wpAny_done (by kernel_rfl) ?_ _
                              go_wp2_with fail
                              go_meet
                              exact ⟨rfl, HX2.out⟩
          · go_simp
            refine hK _ _ ?_
            clear hK K
            refine wpAny_ready (rs := [3]) (by kernel_rfl) (by simp) ?_
            refine (AllReady.cons rfl (fun K hK => ?_) AllReady.nil)
            · refine step_load_rowg (by first | (simp [Region.wanted, yielded]; done) | simp [Region.wanted, yielded, Act.put]) 25 _ rfl w.heap.size (by first | (simp [Act.eval]; done) | simp [Act.eval, Act.put]) 25 cs (0, 0) _ HG1.out Tryd.underlying25 rfl (by rw [HS.out]; exact sizeS) ?_
              refine hK _ _ ?_
              clear hK K
              refine wpAny_ready (rs := [4]) (by kernel_rfl) (by simp) ?_
              refine (AllReady.cons rfl (fun K hK => ?_) AllReady.nil)
              · refine step_callg (by first | (simp [Region.wanted, yielded]; done) | simp [Region.wanted, yielded, Act.put]) 20 [.tmp 91] #[25] rfl [.agg cs] (by first | (simp [Act.eval]; done) | simp [Act.eval, Act.put]) (fun W => by kernel_rfl) HVC.out ?_
                rw [HUF.out]
                rintro e w2 ⟨rfl, hx2⟩
                refine ⟨_, rfl, hK _ _ ?_⟩
                clear hK K
                simp only [fAgg]
                have HX2 := Lib.hid (HX1.out.trans hx2)
                have q0 : w2.cell? ⟨g18, 0, none⟩ = some (.int .i64 uc) := blk_cell (ext_heap HX2.out HB18.out) 0
                have q1 : w2.cell? ⟨g18, 1, none⟩ = some (.int .i64 ui) := blk_cell (ext_heap HX2.out HB18.out) 1
                have r0 : w2.cell? ⟨g16 + 1, 0, none⟩ = some (.int .i64 uc) := blk_cell (ext_heap HX2.out HF16K.out) 0
                have r1 : w2.cell? ⟨g16 + 1, 1, none⟩ = some (.int .i64 ui) := blk_cell (ext_heap HX2.out HF16K.out) 1
                clear hx2 p0 p1
                refine wpAny_ready (rs := [6]) (by kernel_rfl) (by simp) ?_
                refine (AllReady.cons rfl (fun K hK => ?_) AllReady.nil)
                · go_simp
                  refine hK _ _ ?_
                  clear hK K
                  refine wpAny_ready (rs := [7]) (by kernel_rfl) (by simp) ?_
                  refine (AllReady.cons rfl (fun K hK => ?_) AllReady.nil)
                  · go_simp
                    refine hK _ _ ?_
                    clear hK K
                    refine wpAny_ready (rs := [8]) (by kernel_rfl) (by simp) ?_
                    refine (AllReady.cons rfl (fun K hK => ?_) AllReady.nil)
                    · go_simp
                      refine hK _ _ ?_
                      clear hK K
                      refine wpAny_ready (rs := [9, 10]) (by kernel_rfl) (by simp) ?_
                      refine (AllReady.cons rfl (fun K hK => ?_) (AllReady.cons rfl (fun K hK => ?_) AllReady.nil))
                      · go_simp
                        refine hK _ _ ?_
                        clear hK K
                        refine wpAny_ready (rs := [10]) (by kernel_rfl) (by simp) ?_
                        refine (AllReady.cons rfl (fun K hK => ?_) AllReady.nil)
                        · go_simp
                          refine hK _ _ ?_
                          clear hK K
                          refine wpAny_ready (rs := [11]) (by kernel_rfl) (by simp) ?_
                          refine (AllReady.cons rfl (fun K hK => ?_) AllReady.nil)
                          · go_simp
                            refine hK _ _ ?_
                            clear hK K
                            refine wpAny_ready (rs := [12]) (by kernel_rfl) (by simp) ?_
                            refine (AllReady.cons rfl (fun K hK => ?_) AllReady.nil)
                            · go_simp
                              refine hK _ _ ?_
                              clear hK K
                              refine wpAny_done (by kernel_rfl) ?_ _
                              go_wp2_with fail
                              go_meet
                              exact ⟨rfl, HX2.out⟩
                      · go_simp
                        refine hK _ _ ?_
                        clear hK K
                        refine wpAny_ready (rs := [9]) (by kernel_rfl) (by simp) ?_
                        refine (AllReady.cons rfl (fun K hK => ?_) AllReady.nil)
                        · go_simp
                          refine hK _ _ ?_
                          clear hK K
                          refine wpAny_ready (rs := [11]) (by kernel_rfl) (by simp) ?_
                          refine (AllReady.cons rfl (fun K hK => ?_) AllReady.nil)
                          · go_simp
                            refine hK _ _ ?_
                            clear hK K
                            refine wpAny_ready (rs := [12]) (by kernel_rfl) (by simp) ?_
                            refine (AllReady.cons rfl (fun K hK => ?_) AllReady.nil)
                            · go_simp
                              refine hK _ _ ?_
                              clear hK K
                              refine wpAny_done (by kernel_rfl) ?_ _
                              go_wp2_with fail
                              go_meet
                              exact ⟨rfl, HX2.out⟩
  obtain ⟨rfl, hxl⟩ := hcut
  obtain ⟨wl, rfl⟩ : ∃ wl : World, wl = wc := ⟨_, rfl⟩
  have HXL := Lib.hid (HXK.out.trans hxl)
  have HVL := Lib.hid (HVK.out.ext hxl)
  have HV13L := Lib.hid (HV13K.out.ext hxl)
  have HV16L := Lib.hid (HV16K.out.ext hxl)
  have HF13L := Lib.hid (ext_heap hxl HF13K.out)
  have HB18L := Lib.hid (ext_heap hxl HB18.out)
  have HZ13 := Lib.hid HV13.out.st.size
  have HZ16 := Lib.hid HV16.out.st.size
  have hg13 : g13 + 1 < g18 := by have := (Array.getElem?_eq_some_iff.1 HF13J.out).1; omega
  have hg4 : w.heap.size < g18 := by have := (Array.getElem?_eq_some_iff.1 HVJ.out.g).1; omega
  clear hxl
  by_cases hz : uc = 0
  · have hgood : faultD s = (0, 0) := by
      by_cases hq : faultD s = (0, 0)
      · exact hq
      · exact absurd (by rw [HUF.out]; exact hz) (fault_code hq)
    have hui : ui = 0 := by have := HUF.out; rw [hgood] at this; cases this; rfl
    subst hz
    subst hui
    have HOK := Lib.hid (ok_of HH.out hgood)
    have hU : U = (Acc.runF 1 s).1 := by have := HRU.out; rw [runG_good hgood (by decide)] at this; cases this; rfl
    subst hU
    have HGOOD := Lib.hid hgood
    clear hgood
    have p0 : wl.cell? ⟨g18, 0, none⟩ = some (.int .i64 0) := blk_cell HB18L.out 0
    have p1 : wl.cell? ⟨g18, 1, none⟩ = some (.int .i64 0) := blk_cell HB18L.out 1
    go_upto_region 20 with (fail)
    go_cut [20, 21] (fun s19 s20 wx => ∃ g' cs', s19 = .pointer (some ⟨g', 0, none⟩) ∧ s20 = .int .i64 ((Acc.runF 1 s).2 : Int) ∧ Var wx g' cs' (Acc.runF 1 s).1 ∧ Ext wl wx)
    case first =>
      have HR := Lib.hid (ran_c cs s 1 wl HVL.out.st HOK.out (by omega))
      go_wp2_with (refine wpList_load_row rfl 25 _ rfl w.heap.size rfl 25 cs (0, 0) _ HVL.out.g Tryd.underlying25 rfl (by rw [HS.out]; exact sizeS) ?_)
      refine HR.out.mono ?_
      rintro e w1 ⟨cs', rfl, hst, hx1⟩
      have HA := Lib.hid (asgS w1 hst)
      have HS2 := Lib.hid hst.size
      have HO := Lib.hid (dk_one hst)
      have HX1 := Lib.hid hx1
      have H28 := Lib.hid (heap_alloc_new w1 (.cells zeroDk 25))
      clear hst hx1
      go_wp2_with (first | refine wpList_allocS rfl rfl ?_ | refine wpList_store_row rfl 25 _ _ rfl w1.heap.size cs' rfl rfl 25 zeroDk H28.out (by rw [HS2.out]; exact sizeS) (by rw [HS2.out]; rfl) HO.out ?_)
      go_meet
      exact ⟨_, cs', rfl, rfl, HA.out.1, HX1.out.trans HA.out.2⟩
    obtain ⟨g19, c19, rfl, rfl, hv19, hx19⟩ := hcut
    obtain ⟨wm, rfl⟩ : ∃ wm : World, wm = wc := ⟨_, rfl⟩
    have HV19 := Lib.hid hv19
    have HZ19 := Lib.hid hv19.st.size
    have HXM := Lib.hid (HXL.out.trans hx19)
    have HVM := Lib.hid (HVL.out.ext hx19)
    have HV13M := Lib.hid (HV13L.out.ext hx19)
    have HV16M := Lib.hid (HV16L.out.ext hx19)
    have HF13M := Lib.hid (ext_heap hx19 HF13L.out)
    have HB18M := Lib.hid (ext_heap hx19 HB18L.out)
    clear hv19 hx19 p0 p1
    go_upto_region 21 with (fail)
    go_cut [112] (fun s92 wx => s92 = .bool false ∧ Ext wm wx)
    case first =>
      go_wp2_with (first | refine wpList_load_row rfl 25 _ rfl g16 rfl 25 c16 (0, 0) _ HV16M.out.g Tryd.underlying25 rfl (by rw [HZ16.out]; exact sizeS) ?_ | refine wpList_load_row rfl 25 _ rfl g19 rfl 25 c19 (0, 0) _ HV19.out.g Tryd.underlying25 rfl (by rw [HZ19.out]; exact sizeS) ?_)
      refine (same_c c16 c19 _ _ wm HV16M.out.st HV19.out.st).mono ?_
      rw [(sameB_iff _ _).2 rfl]
      rintro e w9 ⟨rfl, hx9⟩
      have HX9 := Lib.hid hx9
      clear hx9
      go_wp2_with fail
      go_meet
      exact ⟨rfl, HX9.out⟩
    obtain ⟨rfl, hxn⟩ := hcut
    obtain ⟨wn, rfl⟩ : ∃ wn : World, wn = wc := ⟨_, rfl⟩
    have HXN := Lib.hid (HXM.out.trans hxn)
    have HVN := Lib.hid (HVM.out.ext hxn)
    have HV13N := Lib.hid (HV13M.out.ext hxn)
    have HF13N := Lib.hid (ext_heap hxn HF13M.out)
    have HB18N := Lib.hid (ext_heap hxn HB18M.out)
    clear hxn
    by_cases hr : 0 ≤ n ∧ n ≤ 60000
    · have hin : inB n 0 60000 = true := inB_true hr.1 hr.2
      have hRT := HRT.out
      rw [runG_good HGOOD.out hr] at hRT
      obtain ⟨N, rfl⟩ : ∃ N : Nat, n = N := ⟨n.toNat, by omega⟩
      rw [Int.toNat_natCast] at hRT
      have hT : T = (Acc.runF N s).1 := by cases hRT; rfl
      have htn : tn = ((Acc.runF N s).2 : Int) := by cases hRT; rfl
      have htc : tc = 0 := by cases hRT; rfl
      have hti : ti = 0 := by cases hRT; rfl
      clear hRT
      subst hT; subst htn; subst htc; subst hti
      have hNl : N ≤ 60000 := by omega
      have p0 : wn.cell? ⟨g18, 0, none⟩ = some (.int .i64 0) := blk_cell HB18N.out 0
      have p1 : wn.cell? ⟨g18, 1, none⟩ = some (.int .i64 0) := blk_cell HB18N.out 1
      have p2 : wn.cell? ⟨g13 + 1, 0, none⟩ = some (.int .i64 0) := blk_cell HF13N.out 0
      have p3 : wn.cell? ⟨g13 + 1, 1, none⟩ = some (.int .i64 0) := blk_cell HF13N.out 1
      clear hr
      go_upto_region 29 with (go_at_call 22; refine (In_c _ _ _ _).mono ?_; rintro e w' ⟨rfl, rfl⟩)
      go_cut [22, 23] (fun s21 s22 wx => ∃ g' cs', s21 = .pointer (some ⟨g', 0, none⟩) ∧ s22 = .int .i64 ((Acc.runF N s).2 : Int) ∧ Var wx g' cs' (Acc.runF N s).1 ∧ Ext wn wx)
      case first =>
        have HR := Lib.hid (ran_c cs s N wn HVN.out.st HOK.out hNl)
        go_wp2_with (refine wpList_load_row rfl 25 _ rfl w.heap.size rfl 25 cs (0, 0) _ HVN.out.g Tryd.underlying25 rfl (by rw [HS.out]; exact sizeS) ?_)
        refine HR.out.mono ?_
        rintro e w1 ⟨cs', rfl, hst, hx1⟩
        have HA := Lib.hid (asgS w1 hst)
        have HS2 := Lib.hid hst.size
        have HO := Lib.hid (dk_one hst)
        have HX1 := Lib.hid hx1
        have H28 := Lib.hid (heap_alloc_new w1 (.cells zeroDk 25))
        clear hst hx1
        go_wp2_with (first | refine wpList_allocS rfl rfl ?_ | refine wpList_store_row rfl 25 _ _ rfl w1.heap.size cs' rfl rfl 25 zeroDk H28.out (by rw [HS2.out]; exact sizeS) (by rw [HS2.out]; rfl) HO.out ?_)
        go_meet
        exact ⟨_, cs', rfl, rfl, HA.out.1, HX1.out.trans HA.out.2⟩
      obtain ⟨g21, c21, rfl, rfl, hv21, hx21⟩ := hcut
      obtain ⟨wo, rfl⟩ : ∃ wo : World, wo = wc := ⟨_, rfl⟩
      have HV21 := Lib.hid hv21
      have HZ21 := Lib.hid hv21.st.size
      have HXO := Lib.hid (HXN.out.trans hx21)
      have HV13O := Lib.hid (HV13N.out.ext hx21)
      clear hv21 hx21 p0 p1 p2 p3
      go_wp2_with (first | refine wpList_load_rowg (by rfl) 25 _ rfl g13 (by rfl) 25 c13 (0, 0) _ HV13O.out.g Tryd.underlying25 rfl (by rw [HZ13.out]; exact sizeS) ?_ | refine wpList_load_rowg (by rfl) 25 _ rfl g21 (by rfl) 25 c21 (0, 0) _ HV21.out.g Tryd.underlying25 rfl (by rw [HZ21.out]; exact sizeS) ?_)
      refine (same_c c13 c21 _ _ wo HV13O.out.st HV21.out.st).mono ?_
      rw [(sameB_iff _ _).2 rfl]
      rintro e w9 ⟨rfl, hx9⟩
      have HX9 := Lib.hid (HXO.out.trans hx9)
      clear hx9
      go_wp2_with fail
      go_ret
      exact ⟨rfl, HX9.out⟩
    · have hin : inB n 0 60000 = false := inB_false hr
      have hRT := HRT.out
      rw [runG_range HGOOD.out hr] at hRT
      have hT : T = dk0 := by cases hRT; rfl
      have htn : tn = 0 := by cases hRT; rfl
      have htc : tc = 4 := by cases hRT; rfl
      have hti : ti = -2 := by cases hRT; rfl
      clear hRT hr
      subst hT; subst htn; subst htc; subst hti
      have hxz : Ext wn (wn.alloc (.cells #[.int .i64 4, .int .i64 (-2)] 28)) := (Ext.refl wn).alloc _
      have H18 := Lib.hid (ext_heap hxz HB18N.out)
      have H13 := Lib.hid (ext_heap hxz HF13N.out)
      have H13g := Lib.hid (ext_heap hxz HV13N.out.g)
      have HXZ := Lib.hid (HXN.out.trans hxz)
      clear hxz
      go_upto_region 25 with (first | (go_at_call 22; refine (In_c _ _ _ _).mono ?_; rintro e w' ⟨rfl, rfl⟩) | (go_at_call 14; refine (At_c _ _ _).mono ?_; rintro e w' ⟨rfl, rfl⟩) | refine wpList_store_row rfl 28 _ _ rfl g18 #[.int .i64 4, .int .i64 (-2)] rfl rfl 28 _ H18.out sizeF rfl (by kernel_rfl) ?_)
      refine wp_world (fun wx => wx.heap[g18]? = some (.cells #[.int .i64 4, .int .i64 (-2)] 28 (0, 0)) ∧ wx.heap[g13 + 1]? = some (.cells #[.int .i64 4, .int .i64 (-2)] 28 (0, 0)) ∧ wx.heap[g13]? = some (.cells c13 25 (0, 0)) ∧ Ext w wx) ⟨setRow_heap _ _ _ _ _ _ H18.out, (setRow_other _ _ _ _ (by omega)).trans H13.out, (setRow_other _ _ _ _ (by omega)).trans H13g.out, HXZ.out.setRow (by omega) _⟩ ?_
      rintro wp ⟨j1, j2, j3, j4⟩
      have p0 : wp.cell? ⟨g18, 0, none⟩ = some (.int .i64 4) := blk_cell j1 0
      have p1 : wp.cell? ⟨g18, 1, none⟩ = some (.int .i64 (-2)) := blk_cell j1 1
      have p2 : wp.cell? ⟨g13 + 1, 0, none⟩ = some (.int .i64 4) := blk_cell j2 0
      have p3 : wp.cell? ⟨g13 + 1, 1, none⟩ = some (.int .i64 (-2)) := blk_cell j2 1
      have J3 := Lib.hid j3
      have J4 := Lib.hid j4
      clear j1 j2 j3 j4
      go_wp2_with (first | refine wpList_load_rowg (by rfl) 25 _ rfl g13 (by rfl) 25 c13 (0, 0) _ J3.out Tryd.underlying25 rfl (by rw [HZ13.out]; exact sizeS) ?_ | refine wpList_buildSg (by rfl) rfl ?_)
      refine (same_c c13 zeroDk dk0 dk0 _ (dk0_any HV13N.out.st) (zero_is _)).mono ?_
      rw [(sameB_iff _ _).2 rfl]
      rintro e w9 ⟨rfl, hx9⟩
      have HX9 := Lib.hid (J4.out.trans hx9)
      clear hx9
      go_wp2_with fail
      go_ret
      exact ⟨rfl, HX9.out⟩
  · have hgb := runG_bad (n := n) HUF.out hz
    have hRT := HRT.out
    rw [hgb] at hRT
    have hT : T = dk0 := by cases hRT; rfl
    have htn : tn = 0 := by cases hRT; rfl
    have htc : tc = uc := by cases hRT; rfl
    have hti : ti = ui := by cases hRT; rfl
    clear hRT hgb
    subst hT; subst htn; subst htc; subst hti
    have m1 : (tc == 0) = false := by simpa using hz
    have m2 : (tc != 0) = true := by simpa using hz
    have p0 : wl.cell? ⟨g18, 0, none⟩ = some (.int .i64 tc) := blk_cell HB18L.out 0
    have p1 : wl.cell? ⟨g18, 1, none⟩ = some (.int .i64 ti) := blk_cell HB18L.out 1
    have p2 : wl.cell? ⟨g13 + 1, 0, none⟩ = some (.int .i64 tc) := blk_cell HF13L.out 0
    have p3 : wl.cell? ⟨g13 + 1, 1, none⟩ = some (.int .i64 ti) := blk_cell HF13L.out 1
    go_wp2_with (first | refine wpList_load_rowg (by rfl) 25 _ rfl g13 (by rfl) 25 c13 (0, 0) _ HV13L.out.g Tryd.underlying25 rfl (by rw [HZ13.out]; exact sizeS) ?_ | refine wpList_buildSg (by rfl) rfl ?_)
    refine (same_c c13 zeroDk dk0 dk0 _ HV13L.out.st (zero_is _)).mono ?_
    rw [(sameB_iff _ _).2 rfl]
    rintro e w9 ⟨rfl, hx9⟩
    have HX9 := Lib.hid (HXL.out.trans hx9)
    clear hx9
    go_wp2_with fail
    go_ret
    exact ⟨rfl, HX9.out⟩
end Go.Proofs.YtbaahbpianingaaDoor
