import Derived.Test.YtbaahbpianingaaGreatDoorMg10
import Derived.Test.YtbaahbpianingaaGreatDoorMg4
namespace Go.Proofs.YtbaahbpianingaaGreatDoor
open Go Go.Proofs Go.RowKit
open Tape (Rule Ts)
set_option maxHeartbeats 3200000
set_option maxRecDepth 100000
def ts0 : Ts := ⟨[], [], 0, 0, 0⟩

theorem ts0_wf : TsWf ts0 := ⟨by simp [ts0], by simp [ts0], ⟨by decide, by decide⟩, ⟨by decide, by decide⟩, ⟨by decide, by decide⟩⟩
theorem zeroT_is (w : World) : TsIs w zeroTs ts0 := ⟨rfl, ⟨none, 0, rfl, Nat.le_refl _, by simp [maxLen], fun _ => rfl, SlC.nil _ _⟩, slAt_nil w _, rfl, rfl, rfl, ts0_wf⟩
def runGT (s : Ts) (n : Int) : Ts × Int × (Int × Int) :=
  if faultT s = (0, 0) then (if 0 ≤ n ∧ n ≤ 60000 then ((Tape.runF n.toNat s).1, ((Tape.runF n.toNat s).2 : Int), (0, 0)) else (ts0, 0, (4, -2)))
  else (ts0, 0, faultT s)
/-- The state is read from these cells, and from blocks from B on, whatever the other blocks hold. -/
def TsFr (B : Nat) (w : World) (cs : Array Value) (s : Ts) : Prop := ∀ F : World, (∀ g, B ≤ g → g < w.heap.size → F.heap[g]? = w.heap[g]?) → TsIs F cs s
theorem TsFr.st {B : Nat} {w : World} {cs : Array Value} {s : Ts} (h : TsFr B w cs s) : TsIs w cs s := h w fun _ _ _ => rfl
def RunRetT (w : World) (r : Ts × Int × (Int × Int)) (e : Ending) (w' : World) : Prop :=
  ∃ cs', e = .returned (.tuple #[.agg cs', .int .i64 r.2.1, fAgg r.2.2]) ∧ TsFr w.heap.size w' cs' r.1 ∧ Ext w w'
theorem wpList_allocQ {w : World} {ops : Array Oper} {rest : List Oper} {o : Oper} {a : Act} {Q : Exit → Act → World → Prop} (hgd : o.guard = none) (ho : o.op = .alloc 25)
    (h : wpList Tryz.prog ops Q rest (a.put o.dst (.pointer (some ⟨w.heap.size, 0, none⟩))) (w.alloc (.cells zeroTs 25))) : wpList Tryz.prog ops Q (o :: rest) a w := by
  refine wpList_plain hgd fun K hK => ?_
  have hr : (Instr.alloc 25 true (.tuple #[])).run Tryz.prog w = .ok (.pointer (some ⟨w.heap.size, 0, none⟩)) (w.alloc (.cells zeroTs 25)) := by kernel_rfl
  unfold Oper.wp execOp
  simp only [ho, Sem.run_bind, hr, Sem.run_pure, Result.andThen_ok]
  exact hK _ _ h
theorem wpList_buildQ {w : World} {ops : Array Oper} {rest : List Oper} {o : Oper} {a : Act} {Q : Exit → Act → World → Prop} (hgd : o.guard = none) (ho : o.op = .build 25 #[])
    (h : wpList Tryz.prog ops Q rest (a.put o.dst (.agg zeroTs)) w) : wpList Tryz.prog ops Q (o :: rest) a w := by
  refine wpList_plain hgd fun K hK => ?_
  have hr : (Instr.build 25 #[]).run Tryz.prog w = .ok (.agg zeroTs) w := by kernel_rfl
  unfold Oper.wp execOp
  simp only [ho, List.map_toArray, List.map_nil, Sem.run_bind, hr, Sem.run_pure, Result.andThen_ok]
  exact hK _ _ h
theorem zeroT_one : zeroTs.all (·.oneCell') = true := by kernel_rfl
/-- The three blocks that Run makes first. -/
structure BegunT (w wx : World) (cs : Array Value) : Prop where
  g0 : wx.heap[w.heap.size]? = some (.cells cs 25 (0, 0))
  g1 : wx.heap[w.heap.size + 1]? = some (.cells zeroTs 25 (0, 0))
  g2 : wx.heap[w.heap.size + 2]? = some (.cells #[.int .i64 0, .int .i64 0] 27 (0, 0))
  x : Ext w wx
theorem begunT_mk (w : World) (cs : Array Value) : BegunT w (((w.alloc (.cells cs 25)).alloc (.cells zeroTs 25)).alloc (.cells #[.int .i64 0, .int .i64 0] 27)) cs := by
  refine ⟨?_, ?_, ?_, (((Ext.refl w).alloc _).alloc _).alloc _⟩
  · rw [Below.heap_alloc _ _ _ (by simp; omega), Below.heap_alloc _ _ _ (by simp)]; exact heap_alloc_new w _
  · rw [Below.heap_alloc _ _ _ (by simp)]; have := heap_alloc_new (w.alloc (.cells cs 25)) (.cells zeroTs 25); simpa using this
  · have := heap_alloc_new ((w.alloc (.cells cs 25)).alloc (.cells zeroTs 25)) (.cells #[.int .i64 0, .int .i64 0] 27)
    simpa using this
theorem BegunT.ext {w wx w1 : World} {cs : Array Value} (h : BegunT w wx cs) (e : Ext wx w1) : BegunT w w1 cs := ⟨ext_heap e h.g0, ext_heap e h.g1, ext_heap e h.g2, h.x.trans e⟩
theorem BegunT.lt {w wx : World} {cs : Array Value} (h : BegunT w wx cs) : w.heap.size + 2 < wx.heap.size := (Array.getElem?_eq_some_iff.1 h.g2).1
theorem badT_fin {w W : World} {cs : Array Value} {c i : Int} (h : BegunT w W cs) : RunRetT w (ts0, 0, (c, i)) (.returned (.tuple #[.agg zeroTs, .int .i64 0, .agg #[.int .i64 c, .int .i64 i]])) ((W.setRow (w.heap.size + 1) zeroTs).setRow (w.heap.size + 2) #[.int .i64 c, .int .i64 i]) :=
  ⟨zeroTs, rfl, fun F _ => zeroT_is F, (h.x.setRow (by omega) _).setRow (by omega) _⟩
theorem runT_bad (cs : Array Value) (s : Ts) (n : Int) (w : World) (h : TsIs w cs s) (hf : faultT s ≠ (0, 0)) : Calls Tryz.prog 35 #[.agg cs, .int .i64 n] w (RunRetT w (runGT s n)) := by
  have he : runGT s n = (ts0, 0, faultT s) := by unfold runGT; rw [if_neg hf]
  rw [he]
  obtain ⟨p, hp⟩ : ∃ p, faultT s = p := ⟨_, rfl⟩
  rw [hp] at hf ⊢
  obtain ⟨c, i⟩ := p
  have HV := Lib.hid (fun (W : World) (hx : Ext w W) => hp ▸ Valid_t cs s W (h.ext hx))
  have HF := Lib.hid hf
  have hne : c = 0 → (i == 0) = false := fun h1 => by
    simp only [beq_eq_false_iff_ne]
    rintro rfl
    exact hf (by rw [h1])
  have hci : ((c == 0) = false ∧ ¬ c = 0) ∨ (c = 0 ∧ (i == 0) = false ∧ ¬ i = 0) := by
    by_cases h1 : c = 0
    · exact .inr ⟨h1, hne h1, by simpa using hne h1⟩
    · exact .inl ⟨by simpa using h1, h1⟩
  clear hne
  have hsz := h.size
  have HS := Lib.hid hsz
  clear hp he hf h hsz
  rcases hci with ⟨q1, q2⟩ | ⟨rfl, q1, q2⟩
  · go_enter Tryz.func35, Tryz.ntmps35
    go_upto_region 0 with (fail)
    go_cut [2, 4, 5, 6] (fun s2 s4 s5 s6 wx => s2 = .pointer (some ⟨w.heap.size, 0, none⟩) ∧ s4 = .pointer (some ⟨w.heap.size + 1, 0, none⟩) ∧ s5 = .int .i64 0 ∧ s6 = .pointer (some ⟨w.heap.size + 2, 0, none⟩) ∧ BegunT w wx cs)
    case first =>
      go_wp2_with (refine wpList_allocQ rfl rfl ?_)
      go_meet
      exact ⟨rfl, rfl, rfl, rfl, begunT_mk w cs⟩
    case rest =>
      obtain ⟨rfl, rfl, rfl, rfl, hbg⟩ := hcut
      have HG0 := Lib.hid hbg.g0
      have HBG := Lib.hid hbg
      clear hbg
      go_wp2_with (refine wpList_load_row rfl 25 _ rfl w.heap.size rfl 25 cs (0, 0) _ HG0.out Tryz.underlying25 rfl (by rw [HS.out]; exact sizeQ) ?_)
      refine (HV.out wc HBG.out.x).mono ?_
      rintro e w1 ⟨rfl, hx1⟩
      have hlt1 := (HBG.out.ext hx1).lt
      have HB1 := Lib.hid (HBG.out.ext hx1)
      clear hx1
      simp only [fAgg]
      go_upto_region 3 with (fail)
      have HB2 := Lib.hid ((HB1.out.ext ((Ext.refl w1).alloc (.cells #[.int .i64 c, .int .i64 i] 27))).ext ((Ext.refl _).drew))
      have HF0 := Lib.hid (heap_alloc_new w1 (.cells #[.int .i64 c, .int .i64 i] 27))
      refine wp_region_any (by kernel_rfl) ?_
      refine wpAny_take (i := 0) (v := .agg zeroTs) rfl (by kernel_rfl) (by kernel_rfl) (by kernel_rfl) (fun _ _ _ h => h) (Or.inl ⟨by rfl, fun w => ?_⟩) ?_
      · kernel_rfl
      refine wpAny_ready (rs := [1, 2]) (by kernel_rfl) (by simp) ?_
      refine (AllReady.cons rfl (fun K hK => ?_) (AllReady.cons rfl (fun K hK => ?_) AllReady.nil))
      · refine step_load_row rfl 27 _ rfl w1.heap.size (by simp [Act.eval, Act.put]) 27 #[.int .i64 c, .int .i64 i] (0, 0) _ (HF0.out) Tryz.underlying27 rfl sizeF ?_
        refine hK _ _ ?_
        clear hK K
        refine wpAny_ready (rs := [2]) (by kernel_rfl) (by simp) ?_
        refine (AllReady.cons rfl (fun K hK => ?_) AllReady.nil)
        · refine step_store_row rfl 25 _ _ rfl (w.heap.size + 1) zeroTs (by simp [Act.eval, Act.put]) (by simp [Act.eval, Act.put]) 25 zeroTs HB2.out.g1 sizeQ rfl zeroT_one ?_
          refine hK _ _ ?_
          clear hK K
          refine wpAny_ready (rs := [3]) (by kernel_rfl) (by simp) ?_
          refine (AllReady.cons rfl (fun K hK => ?_) AllReady.nil)
          · refine step_assign rfl _ rfl _ rfl ?_
            refine hK _ _ ?_
            clear hK K
            refine wpAny_ready (rs := [4]) (by kernel_rfl) (by simp) ?_
            refine (AllReady.cons rfl (fun K hK => ?_) AllReady.nil)
            · refine step_store_row rfl 27 _ _ rfl (w.heap.size + 2) #[.int .i64 c, .int .i64 i] (by simp [Act.eval, Act.put]) (by simp [Act.eval, Act.put]) 27 _ ((setRow_other _ _ _ _ (by omega)).trans HB2.out.g2) sizeF rfl (by kernel_rfl) ?_
              refine hK _ _ ?_
              clear hK K
              refine wpAny_done (by kernel_rfl) ?_ _
              go_wp2_with fail
              refine bodyPost_ret (results_run rfl _ _ (w.heap.size + 1) (w.heap.size + 2) 25 27 zeroTs #[.int .i64 c, .int .i64 i] (0, 0) (0, 0) _ _ rfl ?_ Tryz.underlying25 rfl sizeQ rfl ?_ Tryz.underlying27 rfl sizeF) rfl (badT_fin HB2.out)
              · rw [setRow_other _ _ _ _ (by omega)]; exact setRow_heap _ _ _ _ _ _ HB2.out.g1
              · exact setRow_heap _ _ _ _ _ _ ((setRow_other _ _ _ _ (by omega)).trans HB2.out.g2)
      · refine step_store_row rfl 25 _ _ rfl (w.heap.size + 1) zeroTs (by simp [Act.eval, Act.put]) (by simp [Act.eval, Act.put]) 25 zeroTs HB2.out.g1 sizeQ rfl zeroT_one ?_
        refine hK _ _ ?_
        clear hK K
        refine wpAny_ready (rs := [1, 3]) (by kernel_rfl) (by simp) ?_
        refine (AllReady.cons rfl (fun K hK => ?_) (AllReady.cons rfl (fun K hK => ?_) AllReady.nil))
        · refine step_load_row rfl 27 _ rfl w1.heap.size (by simp [Act.eval, Act.put]) 27 #[.int .i64 c, .int .i64 i] (0, 0) _ ((setRow_other _ _ _ _ (by omega)).trans HF0.out) Tryz.underlying27 rfl sizeF ?_
          refine hK _ _ ?_
          clear hK K
          refine wpAny_ready (rs := [3]) (by kernel_rfl) (by simp) ?_
          refine (AllReady.cons rfl (fun K hK => ?_) AllReady.nil)
          · refine step_assign rfl _ rfl _ rfl ?_
            refine hK _ _ ?_
            clear hK K
            refine wpAny_ready (rs := [4]) (by kernel_rfl) (by simp) ?_
            refine (AllReady.cons rfl (fun K hK => ?_) AllReady.nil)
            · refine step_store_row rfl 27 _ _ rfl (w.heap.size + 2) #[.int .i64 c, .int .i64 i] (by simp [Act.eval, Act.put]) (by simp [Act.eval, Act.put]) 27 _ ((setRow_other _ _ _ _ (by omega)).trans HB2.out.g2) sizeF rfl (by kernel_rfl) ?_
              refine hK _ _ ?_
              clear hK K
              refine wpAny_done (by kernel_rfl) ?_ _
              go_wp2_with fail
              refine bodyPost_ret (results_run rfl _ _ (w.heap.size + 1) (w.heap.size + 2) 25 27 zeroTs #[.int .i64 c, .int .i64 i] (0, 0) (0, 0) _ _ rfl ?_ Tryz.underlying25 rfl sizeQ rfl ?_ Tryz.underlying27 rfl sizeF) rfl (badT_fin HB2.out)
              · rw [setRow_other _ _ _ _ (by omega)]; exact setRow_heap _ _ _ _ _ _ HB2.out.g1
              · exact setRow_heap _ _ _ _ _ _ ((setRow_other _ _ _ _ (by omega)).trans HB2.out.g2)
        · refine step_assign rfl _ rfl _ rfl ?_
          refine hK _ _ ?_
          clear hK K
          refine wpAny_ready (rs := [1]) (by kernel_rfl) (by simp) ?_
          refine (AllReady.cons rfl (fun K hK => ?_) AllReady.nil)
          · refine step_load_row rfl 27 _ rfl w1.heap.size (by simp [Act.eval, Act.put]) 27 #[.int .i64 c, .int .i64 i] (0, 0) _ ((setRow_other _ _ _ _ (by omega)).trans HF0.out) Tryz.underlying27 rfl sizeF ?_
            refine hK _ _ ?_
            clear hK K
            refine wpAny_ready (rs := [4]) (by kernel_rfl) (by simp) ?_
            refine (AllReady.cons rfl (fun K hK => ?_) AllReady.nil)
            · refine step_store_row rfl 27 _ _ rfl (w.heap.size + 2) #[.int .i64 c, .int .i64 i] (by simp [Act.eval, Act.put]) (by simp [Act.eval, Act.put]) 27 _ ((setRow_other _ _ _ _ (by omega)).trans HB2.out.g2) sizeF rfl (by kernel_rfl) ?_
              refine hK _ _ ?_
              clear hK K
              refine wpAny_done (by kernel_rfl) ?_ _
              go_wp2_with fail
              refine bodyPost_ret (results_run rfl _ _ (w.heap.size + 1) (w.heap.size + 2) 25 27 zeroTs #[.int .i64 c, .int .i64 i] (0, 0) (0, 0) _ _ rfl ?_ Tryz.underlying25 rfl sizeQ rfl ?_ Tryz.underlying27 rfl sizeF) rfl (badT_fin HB2.out)
              · rw [setRow_other _ _ _ _ (by omega)]; exact setRow_heap _ _ _ _ _ _ HB2.out.g1
              · exact setRow_heap _ _ _ _ _ _ ((setRow_other _ _ _ _ (by omega)).trans HB2.out.g2)
  · go_enter Tryz.func35, Tryz.ntmps35
    go_upto_region 0 with (fail)
    go_cut [2, 4, 5, 6] (fun s2 s4 s5 s6 wx => s2 = .pointer (some ⟨w.heap.size, 0, none⟩) ∧ s4 = .pointer (some ⟨w.heap.size + 1, 0, none⟩) ∧ s5 = .int .i64 0 ∧ s6 = .pointer (some ⟨w.heap.size + 2, 0, none⟩) ∧ BegunT w wx cs)
    case first =>
      go_wp2_with (refine wpList_allocQ rfl rfl ?_)
      go_meet
      exact ⟨rfl, rfl, rfl, rfl, begunT_mk w cs⟩
    case rest =>
      obtain ⟨rfl, rfl, rfl, rfl, hbg⟩ := hcut
      have HG0 := Lib.hid hbg.g0
      have HBG := Lib.hid hbg
      clear hbg
      go_wp2_with (refine wpList_load_row rfl 25 _ rfl w.heap.size rfl 25 cs (0, 0) _ HG0.out Tryz.underlying25 rfl (by rw [HS.out]; exact sizeQ) ?_)
      refine (HV.out wc HBG.out.x).mono ?_
      rintro e w1 ⟨rfl, hx1⟩
      have hlt1 := (HBG.out.ext hx1).lt
      have HB1 := Lib.hid (HBG.out.ext hx1)
      clear hx1
      simp only [fAgg]
      go_upto_region 3 with (fail)
      have HB2 := Lib.hid ((HB1.out.ext ((Ext.refl w1).alloc (.cells #[.int .i64 0, .int .i64 i] 27))).ext ((Ext.refl _).drew))
      have HF0 := Lib.hid (heap_alloc_new w1 (.cells #[.int .i64 0, .int .i64 i] 27))
      refine wp_region_any (by kernel_rfl) ?_
      refine wpAny_take (i := 0) (v := .agg zeroTs) rfl (by kernel_rfl) (by kernel_rfl) (by kernel_rfl) (fun _ _ _ h => h) (Or.inl ⟨by rfl, fun w => ?_⟩) ?_
      · kernel_rfl
      refine wpAny_ready (rs := [1, 2]) (by kernel_rfl) (by simp) ?_
      refine (AllReady.cons rfl (fun K hK => ?_) (AllReady.cons rfl (fun K hK => ?_) AllReady.nil))
      · refine step_load_row rfl 27 _ rfl w1.heap.size (by simp [Act.eval, Act.put]) 27 #[.int .i64 0, .int .i64 i] (0, 0) _ (HF0.out) Tryz.underlying27 rfl sizeF ?_
        refine hK _ _ ?_
        clear hK K
        refine wpAny_ready (rs := [2]) (by kernel_rfl) (by simp) ?_
        refine (AllReady.cons rfl (fun K hK => ?_) AllReady.nil)
        · refine step_store_row rfl 25 _ _ rfl (w.heap.size + 1) zeroTs (by simp [Act.eval, Act.put]) (by simp [Act.eval, Act.put]) 25 zeroTs HB2.out.g1 sizeQ rfl zeroT_one ?_
          refine hK _ _ ?_
          clear hK K
          refine wpAny_ready (rs := [3]) (by kernel_rfl) (by simp) ?_
          refine (AllReady.cons rfl (fun K hK => ?_) AllReady.nil)
          · refine step_assign rfl _ rfl _ rfl ?_
            refine hK _ _ ?_
            clear hK K
            refine wpAny_ready (rs := [4]) (by kernel_rfl) (by simp) ?_
            refine (AllReady.cons rfl (fun K hK => ?_) AllReady.nil)
            · refine step_store_row rfl 27 _ _ rfl (w.heap.size + 2) #[.int .i64 0, .int .i64 i] (by simp [Act.eval, Act.put]) (by simp [Act.eval, Act.put]) 27 _ ((setRow_other _ _ _ _ (by omega)).trans HB2.out.g2) sizeF rfl (by kernel_rfl) ?_
              refine hK _ _ ?_
              clear hK K
              refine wpAny_done (by kernel_rfl) ?_ _
              go_wp2_with fail
              refine bodyPost_ret (results_run rfl _ _ (w.heap.size + 1) (w.heap.size + 2) 25 27 zeroTs #[.int .i64 0, .int .i64 i] (0, 0) (0, 0) _ _ rfl ?_ Tryz.underlying25 rfl sizeQ rfl ?_ Tryz.underlying27 rfl sizeF) rfl (badT_fin HB2.out)
              · rw [setRow_other _ _ _ _ (by omega)]; exact setRow_heap _ _ _ _ _ _ HB2.out.g1
              · exact setRow_heap _ _ _ _ _ _ ((setRow_other _ _ _ _ (by omega)).trans HB2.out.g2)
      · refine step_store_row rfl 25 _ _ rfl (w.heap.size + 1) zeroTs (by simp [Act.eval, Act.put]) (by simp [Act.eval, Act.put]) 25 zeroTs HB2.out.g1 sizeQ rfl zeroT_one ?_
        refine hK _ _ ?_
        clear hK K
        refine wpAny_ready (rs := [1, 3]) (by kernel_rfl) (by simp) ?_
        refine (AllReady.cons rfl (fun K hK => ?_) (AllReady.cons rfl (fun K hK => ?_) AllReady.nil))
        · refine step_load_row rfl 27 _ rfl w1.heap.size (by simp [Act.eval, Act.put]) 27 #[.int .i64 0, .int .i64 i] (0, 0) _ ((setRow_other _ _ _ _ (by omega)).trans HF0.out) Tryz.underlying27 rfl sizeF ?_
          refine hK _ _ ?_
          clear hK K
          refine wpAny_ready (rs := [3]) (by kernel_rfl) (by simp) ?_
          refine (AllReady.cons rfl (fun K hK => ?_) AllReady.nil)
          · refine step_assign rfl _ rfl _ rfl ?_
            refine hK _ _ ?_
            clear hK K
            refine wpAny_ready (rs := [4]) (by kernel_rfl) (by simp) ?_
            refine (AllReady.cons rfl (fun K hK => ?_) AllReady.nil)
            · refine step_store_row rfl 27 _ _ rfl (w.heap.size + 2) #[.int .i64 0, .int .i64 i] (by simp [Act.eval, Act.put]) (by simp [Act.eval, Act.put]) 27 _ ((setRow_other _ _ _ _ (by omega)).trans HB2.out.g2) sizeF rfl (by kernel_rfl) ?_
              refine hK _ _ ?_
              clear hK K
              refine wpAny_done (by kernel_rfl) ?_ _
              go_wp2_with fail
              refine bodyPost_ret (results_run rfl _ _ (w.heap.size + 1) (w.heap.size + 2) 25 27 zeroTs #[.int .i64 0, .int .i64 i] (0, 0) (0, 0) _ _ rfl ?_ Tryz.underlying25 rfl sizeQ rfl ?_ Tryz.underlying27 rfl sizeF) rfl (badT_fin HB2.out)
              · rw [setRow_other _ _ _ _ (by omega)]; exact setRow_heap _ _ _ _ _ _ HB2.out.g1
              · exact setRow_heap _ _ _ _ _ _ ((setRow_other _ _ _ _ (by omega)).trans HB2.out.g2)
        · refine step_assign rfl _ rfl _ rfl ?_
          refine hK _ _ ?_
          clear hK K
          refine wpAny_ready (rs := [1]) (by kernel_rfl) (by simp) ?_
          refine (AllReady.cons rfl (fun K hK => ?_) AllReady.nil)
          · refine step_load_row rfl 27 _ rfl w1.heap.size (by simp [Act.eval, Act.put]) 27 #[.int .i64 0, .int .i64 i] (0, 0) _ ((setRow_other _ _ _ _ (by omega)).trans HF0.out) Tryz.underlying27 rfl sizeF ?_
            refine hK _ _ ?_
            clear hK K
            refine wpAny_ready (rs := [4]) (by kernel_rfl) (by simp) ?_
            refine (AllReady.cons rfl (fun K hK => ?_) AllReady.nil)
            · refine step_store_row rfl 27 _ _ rfl (w.heap.size + 2) #[.int .i64 0, .int .i64 i] (by simp [Act.eval, Act.put]) (by simp [Act.eval, Act.put]) 27 _ ((setRow_other _ _ _ _ (by omega)).trans HB2.out.g2) sizeF rfl (by kernel_rfl) ?_
              refine hK _ _ ?_
              clear hK K
              refine wpAny_done (by kernel_rfl) ?_ _
              go_wp2_with fail
              refine bodyPost_ret (results_run rfl _ _ (w.heap.size + 1) (w.heap.size + 2) 25 27 zeroTs #[.int .i64 0, .int .i64 i] (0, 0) (0, 0) _ _ rfl ?_ Tryz.underlying25 rfl sizeQ rfl ?_ Tryz.underlying27 rfl sizeF) rfl (badT_fin HB2.out)
              · rw [setRow_other _ _ _ _ (by omega)]; exact setRow_heap _ _ _ _ _ _ HB2.out.g1
              · exact setRow_heap _ _ _ _ _ _ ((setRow_other _ _ _ _ (by omega)).trans HB2.out.g2)
theorem rangeT_fin {w W : World} {cs : Array Value} {c i : Int} (h : BegunT w W cs) : RunRetT w (ts0, 0, (c, i)) (.returned (.tuple #[.agg zeroTs, .int .i64 0, .agg #[.int .i64 c, .int .i64 i]])) ((W.setRow (w.heap.size + 1) zeroTs).setRow (w.heap.size + 2) #[.int .i64 c, .int .i64 i]) :=
  ⟨zeroTs, rfl, fun F _ => zeroT_is F, (h.x.setRow (by omega) _).setRow (by omega) _⟩
theorem runT_range (cs : Array Value) (s : Ts) (n : Int) (w : World) (h : TsIs w cs s) (hf : faultT s = (0, 0)) (hn : ¬ (0 ≤ n ∧ n ≤ 60000)) : Calls Tryz.prog 35 #[.agg cs, .int .i64 n] w (RunRetT w (runGT s n)) := by
  have he : runGT s n = (ts0, 0, (4, -2)) := by unfold runGT; rw [if_pos hf, if_neg hn]
  rw [he]
  have HV := Lib.hid (fun (W : World) (hx : Ext w W) => hf ▸ Valid_t cs s W (h.ext hx))
  have HS := Lib.hid h.size
  have hcs : n < 0 ∨ (0 ≤ n ∧ 60000 < n) := by omega
  clear hf he h hn
  rcases hcs with h1 | ⟨h1, h2⟩
  · go_enter Tryz.func35, Tryz.ntmps35
    go_upto_region 0 with (fail)
    go_cut [2, 4, 5, 6] (fun s2 s4 s5 s6 wx => s2 = .pointer (some ⟨w.heap.size, 0, none⟩) ∧ s4 = .pointer (some ⟨w.heap.size + 1, 0, none⟩) ∧ s5 = .int .i64 0 ∧ s6 = .pointer (some ⟨w.heap.size + 2, 0, none⟩) ∧ BegunT w wx cs)
    case first =>
      go_wp2_with (refine wpList_allocQ rfl rfl ?_)
      go_meet
      exact ⟨rfl, rfl, rfl, rfl, begunT_mk w cs⟩
    case rest =>
      obtain ⟨rfl, rfl, rfl, rfl, hbg⟩ := hcut
      have HG0 := Lib.hid hbg.g0
      have HBG := Lib.hid hbg
      clear hbg
      go_wp2_with (refine wpList_load_row rfl 25 _ rfl w.heap.size rfl 25 cs (0, 0) _ HG0.out Tryz.underlying25 rfl (by rw [HS.out]; exact sizeQ) ?_)
      refine (HV.out wc HBG.out.x).mono ?_
      rintro e w1 ⟨rfl, hx1⟩
      have hlt1 := (HBG.out.ext hx1).lt
      have HB1 := Lib.hid (HBG.out.ext hx1)
      clear hx1
      simp only [fAgg]
      have HB2 := Lib.hid ((HB1.out.ext ((Ext.refl w1).alloc (.cells #[.int .i64 0, .int .i64 0] 27))).ext ((Ext.refl _).alloc (.cells #[.int .i64 4, .int .i64 (-2)] 27)))
      have HB3 := Lib.hid ((setRow_other ((w1.alloc (.cells #[.int .i64 0, .int .i64 0] 27)).alloc (.cells #[.int .i64 4, .int .i64 (-2)] 27)) (w.heap.size + 1) (w.heap.size + 2) zeroTs (by omega)).trans HB2.out.g2)
      go_wp2_with (first | refine wpList_buildQ rfl rfl ?_ | (go_at_call 24; refine (tfault_c _ _ _).mono ?_; rintro e w' ⟨rfl, rfl⟩) | refine wpList_store_row rfl 25 _ _ rfl (w.heap.size + 1) zeroTs rfl rfl 25 zeroTs HB2.out.g1 sizeQ rfl zeroT_one ?_ | refine wpList_store_row rfl 27 _ _ rfl (w.heap.size + 2) #[.int .i64 4, .int .i64 (-2)] rfl rfl 27 _ HB3.out sizeF rfl (by kernel_rfl) ?_)
      refine bodyPost_ret (results_run rfl _ _ (w.heap.size + 1) (w.heap.size + 2) 25 27 zeroTs #[.int .i64 4, .int .i64 (-2)] (0, 0) (0, 0) _ _ rfl ?_ Tryz.underlying25 rfl sizeQ rfl ?_ Tryz.underlying27 rfl sizeF) rfl (rangeT_fin HB2.out)
      · rw [setRow_other _ _ _ _ (by omega)]; exact setRow_heap _ _ _ _ _ _ HB2.out.g1
      · exact setRow_heap _ _ _ _ _ _ HB3.out
  · go_enter Tryz.func35, Tryz.ntmps35
    go_upto_region 0 with (fail)
    go_cut [2, 4, 5, 6] (fun s2 s4 s5 s6 wx => s2 = .pointer (some ⟨w.heap.size, 0, none⟩) ∧ s4 = .pointer (some ⟨w.heap.size + 1, 0, none⟩) ∧ s5 = .int .i64 0 ∧ s6 = .pointer (some ⟨w.heap.size + 2, 0, none⟩) ∧ BegunT w wx cs)
    case first =>
      go_wp2_with (refine wpList_allocQ rfl rfl ?_)
      go_meet
      exact ⟨rfl, rfl, rfl, rfl, begunT_mk w cs⟩
    case rest =>
      obtain ⟨rfl, rfl, rfl, rfl, hbg⟩ := hcut
      have HG0 := Lib.hid hbg.g0
      have HBG := Lib.hid hbg
      clear hbg
      go_wp2_with (refine wpList_load_row rfl 25 _ rfl w.heap.size rfl 25 cs (0, 0) _ HG0.out Tryz.underlying25 rfl (by rw [HS.out]; exact sizeQ) ?_)
      refine (HV.out wc HBG.out.x).mono ?_
      rintro e w1 ⟨rfl, hx1⟩
      have hlt1 := (HBG.out.ext hx1).lt
      have HB1 := Lib.hid (HBG.out.ext hx1)
      clear hx1
      simp only [fAgg]
      have HB2 := Lib.hid ((HB1.out.ext ((Ext.refl w1).alloc (.cells #[.int .i64 0, .int .i64 0] 27))).ext ((Ext.refl _).alloc (.cells #[.int .i64 4, .int .i64 (-2)] 27)))
      have HB3 := Lib.hid ((setRow_other ((w1.alloc (.cells #[.int .i64 0, .int .i64 0] 27)).alloc (.cells #[.int .i64 4, .int .i64 (-2)] 27)) (w.heap.size + 1) (w.heap.size + 2) zeroTs (by omega)).trans HB2.out.g2)
      go_wp2_with (first | refine wpList_buildQ rfl rfl ?_ | (go_at_call 24; refine (tfault_c _ _ _).mono ?_; rintro e w' ⟨rfl, rfl⟩) | refine wpList_store_row rfl 25 _ _ rfl (w.heap.size + 1) zeroTs rfl rfl 25 zeroTs HB2.out.g1 sizeQ rfl zeroT_one ?_ | refine wpList_store_row rfl 27 _ _ rfl (w.heap.size + 2) #[.int .i64 4, .int .i64 (-2)] rfl rfl 27 _ HB3.out sizeF rfl (by kernel_rfl) ?_)
      refine bodyPost_ret (results_run rfl _ _ (w.heap.size + 1) (w.heap.size + 2) 25 27 zeroTs #[.int .i64 4, .int .i64 (-2)] (0, 0) (0, 0) _ _ rfl ?_ Tryz.underlying25 rfl sizeQ rfl ?_ Tryz.underlying27 rfl sizeF) rfl (rangeT_fin HB2.out)
      · rw [setRow_other _ _ _ _ (by omega)]; exact setRow_heap _ _ _ _ _ _ HB2.out.g1
      · exact setRow_heap _ _ _ _ _ _ HB3.out
end Go.Proofs.YtbaahbpianingaaGreatDoor
