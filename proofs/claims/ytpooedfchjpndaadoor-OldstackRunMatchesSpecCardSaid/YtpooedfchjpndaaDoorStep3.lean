import Derived.Test.YtpooedfchjpndaaDoorRunBad
import Derived.Test.YtpooedfchjpndaaDoorRunRange
namespace Go.Proofs.YtpooedfchjpndaaDoor
open Go Go.Proofs Go.RowKit
set_option maxHeartbeats 3200000
set_option maxRecDepth 100000
theorem run_all (cs : Array Value) (s : St) (n : Int) (w : World) (h : StIs w cs s) (ht : Tabs w) : Calls Tryd.prog 10 #[.agg cs, .int .i64 n] w (RunRet w (runG s n)) := by
  by_cases hf : faultOf s = (0, 0)
  · by_cases hn : 0 ≤ n ∧ n ≤ 60000
    · exact copied_mid cs s n w h hf hn ht
    · exact run_range cs s n w h hf hn
  · exact run_bad cs s n w h hf
theorem wpList_alloc28 {w : World} {ops : Array Oper} {rest : List Oper} {o : Oper} {a : Act} {Q : Exit → Act → World → Prop} (hgd : o.guard = none) (ho : o.op = .alloc 28)
    (h : wpList Tryd.prog ops Q rest (a.put o.dst (.pointer (some ⟨w.heap.size, 0, none⟩))) (w.alloc (.cells zeroSt 28))) : wpList Tryd.prog ops Q (o :: rest) a w := by
  refine wpList_plain hgd fun K hK => ?_
  have hr : (Instr.alloc 28 true (.tuple #[])).run Tryd.prog w = .ok (.pointer (some ⟨w.heap.size, 0, none⟩)) (w.alloc (.cells zeroSt 28)) := by kernel_rfl
  unfold Oper.wp execOp
  simp only [ho, Sem.run_bind, hr, Sem.run_pure, Result.andThen_ok]
  exact hK _ _ h
theorem results_two {P : Program} {fn : Func} {p q : Tmp} {tp tq : TypeId} (h : fn.results = #[.cell p tp, .cell q tq]) (tmps : Array Value) (w : World) (g g' : Nat) (t t' : TypeId) (cs cs' : Array Value) (fr fr' : Nat × Nat) (d d' : TypeDesc)
    (hp : tmps.getD p undef = .pointer (some ⟨g, 0, none⟩)) (hg : w.heap[g]? = some (.cells cs t fr)) (hu : P.underlying tp = some d) (hd : (match d with | .struct _ | .array _ _ => true | _ => false) = true) (hi : (P.info? tp).map (·.size) = some cs.size)
    (hq : tmps.getD q undef = .pointer (some ⟨g', 0, none⟩)) (hg' : w.heap[g']? = some (.cells cs' t' fr')) (hu' : P.underlying tq = some d') (hd' : (match d' with | .struct _ | .array _ _ => true | _ => false) = true) (hi' : (P.info? tq).map (·.size) = some cs'.size) :
    (results fn tmps).run P w = .ok (.tuple #[.agg cs, .agg cs']) w := by
  have hp' : tmps[p]?.getD undef = .pointer (some ⟨g, 0, none⟩) := by simpa using hp
  have hq' : tmps[q]?.getD undef = .pointer (some ⟨g', 0, none⟩) := by simpa using hq
  simp [results, h, hp', hq', asAddr, run_loadVar_row w g t tp cs fr d hg hu hd hi, run_loadVar_row w g' t' tq cs' fr' d' hg' hu' hd' hi']
theorem st_one {w : World} {s : St} {cs : Array Value} (h : StIs w cs s) : cs.all (·.oneCell') = true := by
  have hsz := h.size
  rw [Array.all_eq_true]
  intro i hi
  have key : ∀ v, cs[i]? = some v → v.oneCell' = true → cs[i].oneCell' = true := by
    intro v hv ho
    rw [Array.getElem?_eq_getElem hi] at hv
    cases hv
    exact ho
  obtain ⟨A0, c0, e0, _⟩ := h.image
  obtain ⟨A5, c5, e5, _⟩ := h.input
  obtain ⟨A2, c2, e2, _⟩ := h.data
  obtain ⟨A3, c3, e3, _⟩ := h.ret
  obtain ⟨A6, c6, e6, _⟩ := h.output
  by_cases h0 : i = 0
  · subst h0; exact key _ e0 rfl
  by_cases h1 : i = 1
  · subst h1; exact key _ h.at_ rfl
  by_cases h2 : i = 2
  · subst h2; exact key _ e2 rfl
  by_cases h3 : i = 3
  · subst h3; exact key _ e3 rfl
  by_cases h36 : i = 36
  · subst h36; exact key _ e5 rfl
  by_cases h37 : i = 37
  · subst h37; exact key _ e6 rfl
  by_cases h38 : i = 38
  · subst h38; exact key _ h.stop rfl
  have hm := h.mem (i - 4) (by omega)
  rw [show 4 + (i - 4) = i from by omega] at hm
  exact key _ hm rfl
theorem step_ext (w1 : World) (cs' : Array Value) (c i : Int) (o : Obj) : Ext w1 ((((w1.alloc (.cells zeroSt 28)).alloc o).setRow w1.heap.size cs').setRow (w1.heap.size + 1) #[.int .i64 c, .int .i64 i]).drew :=
  ((((((Ext.refl w1).alloc _).alloc _).setRow (Nat.le_refl _) _).setRow (by omega) _).drew)
theorem step_heap (w1 : World) (cs' : Array Value) (c i : Int) (o : Obj) (ho : o = .cells #[.int .i64 0, .int .i64 0] 30 := by rfl) :
    ((((w1.alloc (.cells zeroSt 28)).alloc o).setRow w1.heap.size cs').setRow (w1.heap.size + 1) #[.int .i64 c, .int .i64 i]).drew.heap[w1.heap.size]? = some (.cells cs' 28 (0, 0)) ∧
    ((((w1.alloc (.cells zeroSt 28)).alloc o).setRow w1.heap.size cs').setRow (w1.heap.size + 1) #[.int .i64 c, .int .i64 i]).drew.heap[w1.heap.size + 1]? = some (.cells #[.int .i64 c, .int .i64 i] 30 (0, 0)) := by
  subst ho
  refine ⟨?_, ?_⟩
  · show (((((w1.alloc (.cells zeroSt 28)).alloc _).setRow w1.heap.size cs').setRow (w1.heap.size + 1) #[.int .i64 c, .int .i64 i])).heap[w1.heap.size]? = _
    rw [setRow_other _ _ _ _ (by omega)]
    exact setRow_heap _ _ _ _ _ _ (heap_alloc2_old w1 _ _)
  · show (((((w1.alloc (.cells zeroSt 28)).alloc _).setRow w1.heap.size cs').setRow (w1.heap.size + 1) #[.int .i64 c, .int .i64 i])).heap[w1.heap.size + 1]? = _
    exact setRow_heap _ _ _ _ _ _ ((setRow_other _ _ _ _ (by omega)).trans (heap_alloc2_new w1 _ _))
def SRet (w : World) (r : St × (Int × Int)) (e : Ending) (w' : World) : Prop :=
  ∃ cs', e = .returned (.tuple #[.agg cs', fAgg r.2]) ∧ StFr w.heap.size w' cs' r.1 ∧ Ext w w'
theorem step_fin {w w1 : World} {cs cs' : Array Value} {r1 : St} {c i : Int} {W : World} (h : StFr W.heap.size w1 cs' r1) (hb : Begun w ((((w1.alloc (.cells zeroSt 28)).alloc (.cells #[.int .i64 0, .int .i64 0] 30)).setRow w1.heap.size cs').setRow (w1.heap.size + 1) #[.int .i64 c, .int .i64 i]).drew cs) (hW : w.heap.size + 2 < W.heap.size) (_hlt : w.heap.size + 2 < w1.heap.size) :
    SRet w (r1, (c, i)) (.returned (.tuple #[.agg cs', .agg #[.int .i64 c, .int .i64 i]])) (((((((w1.alloc (.cells zeroSt 28)).alloc (.cells #[.int .i64 0, .int .i64 0] 30)).setRow w1.heap.size cs').setRow (w1.heap.size + 1) #[.int .i64 c, .int .i64 i]).drew).setRow (w.heap.size + 1) cs').setRow (w.heap.size + 2) #[.int .i64 c, .int .i64 i]) := by
  refine ⟨cs', rfl, fun F hF => h F fun g hg hl => ?_, (hb.x.setRow (by omega) _).setRow (by omega) _⟩
  rw [hF g (by omega) (by have := (step_ext w1 cs' c i (.cells #[.int .i64 0, .int .i64 0] 30)).size; simp at this ⊢; omega), setRow_other _ _ _ _ (by omega), setRow_other _ _ _ _ (by omega)]
  exact (step_ext w1 cs' c i (.cells #[.int .i64 0, .int .i64 0] 30)).block g hl
theorem setRow_ext {w W : World} {cs : Array Value} {g : Nat} (h : Begun w W cs) (hg : w.heap.size ≤ g) {A : Option Addr} {xs : List Value} (hs : SlC w A xs) (c : Array Value) : SlC (W.setRow g c) A xs := hs.ext (h.x.setRow hg c)
theorem step_go (cs : Array Value) (s : St) (w : World) (h : StIs w cs s) (ht : Tabs w) : Calls Tryd.prog 11 #[.agg cs] w (SRet w ((runG s 1).1, (runG s 1).2.2)) := by
  have HV := Lib.hid (fun (W : World) (hx : Ext w W) => run_all cs s 1 W (h.ext hx) (ht.below hx (tabs_lt ht)))
  obtain ⟨r, hr⟩ : ∃ r, runG s 1 = r := ⟨_, rfl⟩
  rw [hr] at HV ⊢
  have HS := Lib.hid h.size
  clear h ht
  go_enter Tryd.func11, Tryd.ntmps11
  go_upto_region 0 with (fail)
  go_cut [1, 2, 3] (fun s1 s2 s3 wx => s1 = .pointer (some ⟨w.heap.size, 0, none⟩) ∧ s2 = .pointer (some ⟨w.heap.size + 1, 0, none⟩) ∧ s3 = .pointer (some ⟨w.heap.size + 2, 0, none⟩) ∧ Begun w wx cs)
  case first =>
    go_wp2_with fail
    go_meet
    exact ⟨rfl, rfl, rfl, zeroSt_lit ▸ begun_mk w cs⟩
  case rest =>
    obtain ⟨rfl, rfl, rfl, hbg⟩ := hcut
    have HG0 := Lib.hid hbg.g0
    have HBG := Lib.hid hbg
    clear hbg
    go_wp2_with (refine wpList_load_row rfl 28 _ rfl w.heap.size rfl 28 cs (0, 0) _ HG0.out Tryd.underlying28 rfl (by rw [HS.out]; exact size28) ?_)
    refine (HV.out wc HBG.out.x).mono ?_
    rintro e w1 ⟨cs', rfl, hi2, hx1⟩
    obtain ⟨r1, r2, c, i⟩ := r
    simp only [fAgg]
    have HI2 := Lib.hid hi2
    have HS2 := Lib.hid hi2.st.size
    have hlt1 := (HBG.out.ext hx1).lt
    have HB1 := Lib.hid (HBG.out.ext hx1)
    have H28 := Lib.hid (heap_alloc2_old w1 (.cells zeroSt 28) (.cells #[.int .i64 0, .int .i64 0] 30))
    have H30 := Lib.hid ((setRow_other _ w1.heap.size (w1.heap.size + 1) cs' (by omega)).trans (heap_alloc2_new w1 (.cells zeroSt 28) (.cells #[.int .i64 0, .int .i64 0] 30)))
    clear hx1 hi2
    go_wp2_with (first | refine wpList_alloc28 rfl rfl ?_ | refine wpList_store_row rfl 28 _ _ rfl w1.heap.size cs' rfl rfl 28 zeroSt H28.out (by rw [HS2.out]; exact size28) (by rw [HS2.out]; rfl) (st_one HI2.out.st) ?_ | refine wpList_store_row rfl 30 _ _ rfl (w1.heap.size + 1) #[.int .i64 c, .int .i64 i] rfl rfl 30 _ H30.out size30 rfl (by kernel_rfl) ?_)
    have HX := Lib.hid (step_heap w1 cs' c i (.cells #[.int .i64 0, .int .i64 0] 30))
    have HB2 := Lib.hid (HB1.out.ext (step_ext w1 cs' c i (.cells #[.int .i64 0, .int .i64 0] 30)))
    refine wp_region_any (by kernel_rfl) ?_
    refine wpAny_ready (rs := [0, 1]) (by kernel_rfl) (by simp) ?_
    refine (AllReady.cons rfl (fun K hK => ?_) (AllReady.cons rfl (fun K hK => ?_) AllReady.nil))
    · refine step_load_row rfl 28 _ rfl w1.heap.size (by simp [Act.eval, Act.put]) 28 cs' (0, 0) _ HX.out.1 Tryd.underlying28 rfl (by rw [HS2.out]; exact size28) ?_
      refine hK _ _ ?_
      clear hK K
      refine wpAny_ready (rs := [1, 2]) (by kernel_rfl) (by simp) ?_
      refine (AllReady.cons rfl (fun K hK => ?_) (AllReady.cons rfl (fun K hK => ?_) AllReady.nil))
      · refine step_load_row rfl 30 _ rfl (w1.heap.size + 1) (by simp [Act.eval, Act.put]) 30 #[.int .i64 c, .int .i64 i] (0, 0) _ HX.out.2 Tryd.underlying30 rfl size30 ?_
        refine hK _ _ ?_
        clear hK K
        refine wpAny_ready (rs := [2]) (by kernel_rfl) (by simp) ?_
        refine (AllReady.cons rfl (fun K hK => ?_) AllReady.nil)
        · refine step_store_row rfl 28 _ _ rfl (w.heap.size + 1) cs' (by simp [Act.eval, Act.put]) (by simp [Act.eval, Act.put]) 28 zeroSt HB2.out.g1 (by rw [HS2.out]; exact size28) (by rw [HS2.out]; rfl) (st_one HI2.out.st) ?_
          refine hK _ _ ?_
          clear hK K
          refine wpAny_ready (rs := [3]) (by kernel_rfl) (by simp) ?_
          refine (AllReady.cons rfl (fun K hK => ?_) AllReady.nil)
          · refine step_store_row rfl 30 _ _ rfl (w.heap.size + 2) #[.int .i64 c, .int .i64 i] (by simp [Act.eval, Act.put]) (by simp [Act.eval, Act.put]) 30 _ ((setRow_other _ _ _ _ (by omega)).trans HB2.out.g2) size30 rfl (by kernel_rfl) ?_
            refine hK _ _ ?_
            clear hK K
            refine wpAny_done (by kernel_rfl) ?_ _
            go_wp2_with fail
            refine bodyPost_ret (results_two rfl _ _ (w.heap.size + 1) (w.heap.size + 2) 28 30 cs' #[.int .i64 c, .int .i64 i] (0, 0) (0, 0) _ _ rfl ?_ Tryd.underlying28 rfl (by rw [HS2.out]; exact size28) rfl ?_ Tryd.underlying30 rfl size30) rfl (step_fin HI2.out HB2.out HBG.out.lt HB1.out.lt)
            · rw [setRow_other _ _ _ _ (by omega)]; exact setRow_heap _ _ _ _ _ _ HB2.out.g1
            · exact setRow_heap _ _ _ _ _ _ ((setRow_other _ _ _ _ (by omega)).trans HB2.out.g2)
      · refine step_store_row rfl 28 _ _ rfl (w.heap.size + 1) cs' (by simp [Act.eval, Act.put]) (by simp [Act.eval, Act.put]) 28 zeroSt HB2.out.g1 (by rw [HS2.out]; exact size28) (by rw [HS2.out]; rfl) (st_one HI2.out.st) ?_
        refine hK _ _ ?_
        clear hK K
        refine wpAny_ready (rs := [1]) (by kernel_rfl) (by simp) ?_
        refine (AllReady.cons rfl (fun K hK => ?_) AllReady.nil)
        · refine step_load_row rfl 30 _ rfl (w1.heap.size + 1) (by simp [Act.eval, Act.put]) 30 #[.int .i64 c, .int .i64 i] (0, 0) _ ((setRow_other _ _ _ _ (by omega)).trans HX.out.2) Tryd.underlying30 rfl size30 ?_
          refine hK _ _ ?_
          clear hK K
          refine wpAny_ready (rs := [3]) (by kernel_rfl) (by simp) ?_
          refine (AllReady.cons rfl (fun K hK => ?_) AllReady.nil)
          · refine step_store_row rfl 30 _ _ rfl (w.heap.size + 2) #[.int .i64 c, .int .i64 i] (by simp [Act.eval, Act.put]) (by simp [Act.eval, Act.put]) 30 _ ((setRow_other _ _ _ _ (by omega)).trans HB2.out.g2) size30 rfl (by kernel_rfl) ?_
            refine hK _ _ ?_
            clear hK K
            refine wpAny_done (by kernel_rfl) ?_ _
            go_wp2_with fail
            refine bodyPost_ret (results_two rfl _ _ (w.heap.size + 1) (w.heap.size + 2) 28 30 cs' #[.int .i64 c, .int .i64 i] (0, 0) (0, 0) _ _ rfl ?_ Tryd.underlying28 rfl (by rw [HS2.out]; exact size28) rfl ?_ Tryd.underlying30 rfl size30) rfl (step_fin HI2.out HB2.out HBG.out.lt HB1.out.lt)
            · rw [setRow_other _ _ _ _ (by omega)]; exact setRow_heap _ _ _ _ _ _ HB2.out.g1
            · exact setRow_heap _ _ _ _ _ _ ((setRow_other _ _ _ _ (by omega)).trans HB2.out.g2)
    · refine step_load_row rfl 30 _ rfl (w1.heap.size + 1) (by simp [Act.eval, Act.put]) 30 #[.int .i64 c, .int .i64 i] (0, 0) _ HX.out.2 Tryd.underlying30 rfl size30 ?_
      refine hK _ _ ?_
      clear hK K
      refine wpAny_ready (rs := [0]) (by kernel_rfl) (by simp) ?_
      refine (AllReady.cons rfl (fun K hK => ?_) AllReady.nil)
      · refine step_load_row rfl 28 _ rfl w1.heap.size (by simp [Act.eval, Act.put]) 28 cs' (0, 0) _ HX.out.1 Tryd.underlying28 rfl (by rw [HS2.out]; exact size28) ?_
        refine hK _ _ ?_
        clear hK K
        refine wpAny_ready (rs := [2]) (by kernel_rfl) (by simp) ?_
        refine (AllReady.cons rfl (fun K hK => ?_) AllReady.nil)
        · refine step_store_row rfl 28 _ _ rfl (w.heap.size + 1) cs' (by simp [Act.eval, Act.put]) (by simp [Act.eval, Act.put]) 28 zeroSt HB2.out.g1 (by rw [HS2.out]; exact size28) (by rw [HS2.out]; rfl) (st_one HI2.out.st) ?_
          refine hK _ _ ?_
          clear hK K
          refine wpAny_ready (rs := [3]) (by kernel_rfl) (by simp) ?_
          refine (AllReady.cons rfl (fun K hK => ?_) AllReady.nil)
          · refine step_store_row rfl 30 _ _ rfl (w.heap.size + 2) #[.int .i64 c, .int .i64 i] (by simp [Act.eval, Act.put]) (by simp [Act.eval, Act.put]) 30 _ ((setRow_other _ _ _ _ (by omega)).trans HB2.out.g2) size30 rfl (by kernel_rfl) ?_
            refine hK _ _ ?_
            clear hK K
            refine wpAny_done (by kernel_rfl) ?_ _
            go_wp2_with fail
            refine bodyPost_ret (results_two rfl _ _ (w.heap.size + 1) (w.heap.size + 2) 28 30 cs' #[.int .i64 c, .int .i64 i] (0, 0) (0, 0) _ _ rfl ?_ Tryd.underlying28 rfl (by rw [HS2.out]; exact size28) rfl ?_ Tryd.underlying30 rfl size30) rfl (step_fin HI2.out HB2.out HBG.out.lt HB1.out.lt)
            · rw [setRow_other _ _ _ _ (by omega)]; exact setRow_heap _ _ _ _ _ _ HB2.out.g1
            · exact setRow_heap _ _ _ _ _ _ ((setRow_other _ _ _ _ (by omega)).trans HB2.out.g2)
end Go.Proofs.YtpooedfchjpndaaDoor
