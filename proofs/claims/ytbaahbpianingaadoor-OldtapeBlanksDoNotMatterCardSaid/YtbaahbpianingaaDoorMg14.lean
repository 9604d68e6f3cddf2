import Derived.Test.YtbaahbpianingaaDoorMg13
import Derived.Test.YtbaahbpianingaaDoorMg3
import Derived.Test.YtbaahbpianingaaDoorMg4
namespace Go.Proofs.YtbaahbpianingaaDoor
open Go Go.Proofs Go.RowKit
open Acc (Dk red five)
set_option maxHeartbeats 3200000
set_option maxRecDepth 100000
theorem Ext.setRow {w wx : World} (h : Ext w wx) {g : Nat} (hg : w.heap.size ≤ g) (cs : Array Value) : Ext w (wx.setRow g cs) :=
  Below.trans h ⟨rfl, rfl, rfl, by simp [World.setRow], fun k hk => setRow_other wx g k cs (by omega)⟩
theorem step_store_row {P : Program} {W : World} {ops : Array Oper} {o : Oper} {a : Act} {K : Act → World → Prop} {Q : Exit → Act → World → Prop} {E : Prop} (hgd : o.guard = none) (ty : TypeId) (x y : Operand) (ho : o.op = .store ty x y)
    (g : Nat) (cells : Array Value) (hx : a.eval x = .pointer (some ⟨g, 0, none⟩)) (hy : a.eval y = .agg cells)
    (t : TypeId) (old : Array Value) (hg : W.heap[g]? = some (.cells old t (0, 0))) (hi : (P.info? ty).map (·.size) = some cells.size)
    (hold : old.size = cells.size) (h1 : cells.all (·.oneCell') = true) (h : K (a.put o.dst undef) (W.setRow g cells)) : if Region.wanted o (yielded ops a.tmps) = true then Oper.wp P o a W K Q else E := by
  have hw : Region.wanted o (yielded ops a.tmps) = true := by simp [Region.wanted, hgd]
  rw [if_pos hw]
  exact wp_store_row ty x y ho g cells hx hy t old hg hi hold h1 h
theorem step_load_row {P : Program} {W : World} {ops : Array Oper} {o : Oper} {a : Act} {K : Act → World → Prop} {Q : Exit → Act → World → Prop} {E : Prop} (hgd : o.guard = none) (ty : TypeId) (x : Operand) (ho : o.op = .load ty x)
    (g : Nat) (hx : a.eval x = .pointer (some ⟨g, 0, none⟩)) (t : TypeId) (cs : Array Value) (fr : Nat × Nat) (d : TypeDesc) (hg : W.heap[g]? = some (.cells cs t fr))
    (hu : P.underlying ty = some d) (hd : (match d with | .struct _ | .array _ _ => true | _ => false) = true) (hi : (P.info? ty).map (·.size) = some cs.size)
    (h : K (a.put o.dst (.agg cs)) W) : if Region.wanted o (yielded ops a.tmps) = true then Oper.wp P o a W K Q else E := by
  have hw : Region.wanted o (yielded ops a.tmps) = true := by simp [Region.wanted, hgd]
  rw [if_pos hw]
  exact wp_load_row ty x ho g hx t cs fr d hg hu hd hi h
theorem step_assign {P : Program} {W : World} {ops : Array Oper} {o : Oper} {a : Act} {K : Act → World → Prop} {Q : Exit → Act → World → Prop} {E : Prop} (hgd : o.guard = none) (x : Operand) (ho : o.op = .assign x) (v : Value) (hx : a.eval x = v)
    (h : K (a.put o.dst v) W) : if Region.wanted o (yielded ops a.tmps) = true then Oper.wp P o a W K Q else E := by
  have hw : Region.wanted o (yielded ops a.tmps) = true := by simp [Region.wanted, hgd]
  rw [if_pos hw]
  unfold Oper.wp execOp
  simp only [ho, Sem.run_pure, hx]
  exact h
/-- What the fault's way leaves. -/
theorem bad_fin {w W : World} {cs : Array Value} {c i : Int} (h : Begun w W cs) : RunRet w (dk0, 0, (c, i)) (.returned (.tuple #[.agg zeroDk, .int .i64 0, .agg #[.int .i64 c, .int .i64 i]])) ((W.setRow (w.heap.size + 1) zeroDk).setRow (w.heap.size + 2) #[.int .i64 c, .int .i64 i]) :=
  ⟨zeroDk, rfl, fun F _ => zero_is F, (h.x.setRow (by omega) _).setRow (by omega) _⟩
theorem run_bad (cs : Array Value) (s : Dk) (n : Int) (w : World) (h : DkIs w cs s) (hf : faultD s ≠ (0, 0)) : Calls Tryd.prog 16 #[.agg cs, .int .i64 n] w (RunRet w (runG s n)) := by
  have he : runG s n = (dk0, 0, faultD s) := by unfold runG; rw [if_neg hf]
  rw [he]
  obtain ⟨p, hp⟩ : ∃ p, faultD s = p := ⟨_, rfl⟩
  rw [hp] at hf ⊢
  obtain ⟨c, i⟩ := p
  have HV := Lib.hid (fun (W : World) (hx : Ext w W) => hp ▸ Valid_c cs s W (h.ext hx))
  have HF := Lib.hid hf
  have hne : c = 0 → (i == 0) = false := fun h1 => by
    simp only [beq_eq_false_iff_ne]
    rintro rfl
    exact hf (by rw [h1])
  have hci : ((c == 0) = false ∧ ¬ c = 0) ∨ (c = 0 ∧ (i == 0) = false ∧ ¬ i = 0) := by
    by_cases h1 : c = 0
    · exact .inr ⟨h1, hne h1, by simpa using hne h1⟩
    · exact .inl ⟨by simpa using h1, h1⟩
  clear hne
  have hsz := h.size
  have HS := Lib.hid hsz
  clear hp he hf h hsz
  rcases hci with ⟨q1, q2⟩ | ⟨rfl, q1, q2⟩
  · go_enter Tryd.func16, Tryd.ntmps16
    go_upto_region 0 with (fail)
    go_cut [2, 4, 5, 6] (fun s2 s4 s5 s6 wx => s2 = .pointer (some ⟨w.heap.size, 0, none⟩) ∧ s4 = .pointer (some ⟨w.heap.size + 1, 0, none⟩) ∧ s5 = .int .i64 0 ∧ s6 = .pointer (some ⟨w.heap.size + 2, 0, none⟩) ∧ Begun w wx cs)
    case first =>
      go_wp2_with (refine wpList_allocS rfl rfl ?_)
      go_meet
      exact ⟨rfl, rfl, rfl, rfl, begun_mk w cs⟩
    case rest =>
      obtain ⟨rfl, rfl, rfl, rfl, hbg⟩ := hcut
      have HG0 := Lib.hid hbg.g0
      have HBG := Lib.hid hbg
      clear hbg
      go_wp2_with (refine wpList_load_row rfl 25 _ rfl w.heap.size rfl 25 cs (0, 0) _ HG0.out Tryd.underlying25 rfl (by rw [HS.out]; exact sizeS) ?_)
      refine (HV.out wc HBG.out.x).mono ?_
      rintro e w1 ⟨rfl, hx1⟩
      have hlt1 := (HBG.out.ext hx1).lt
      have HB1 := Lib.hid (HBG.out.ext hx1)
      clear hx1
      simp only [fAgg]
      go_upto_region 3 with (fail)
      have HB2 := Lib.hid ((HB1.out.ext ((Ext.refl w1).alloc (.cells #[.int .i64 c, .int .i64 i] 28))).ext ((Ext.refl _).drew))
      have HF0 := Lib.hid (heap_alloc_new w1 (.cells #[.int .i64 c, .int .i64 i] 28))
      refine wp_region_any (by kernel_rfl) ?_
      refine wpAny_take (i := 0) (v := .agg zeroDk) rfl (by kernel_rfl) (by kernel_rfl) (by kernel_rfl) (fun _ _ _ h => h) (Or.inl ⟨by rfl, fun w => ?_⟩) ?_
      · kernel_rfl
      refine wpAny_ready (rs := [1, 2]) (by kernel_rfl) (by simp) ?_
      refine (AllReady.cons rfl (fun K hK => ?_) (AllReady.cons rfl (fun K hK => ?_) AllReady.nil))
      · refine step_load_row rfl 28 _ rfl w1.heap.size (by simp [Act.eval, Act.put]) 28 #[.int .i64 c, .int .i64 i] (0, 0) _ (HF0.out) Tryd.underlying28 rfl sizeF ?_
        refine hK _ _ ?_
        clear hK K
        refine wpAny_ready (rs := [2]) (by kernel_rfl) (by simp) ?_
        refine (AllReady.cons rfl (fun K hK => ?_) AllReady.nil)
        · refine step_store_row rfl 25 _ _ rfl (w.heap.size + 1) zeroDk (by simp [Act.eval, Act.put]) (by simp [Act.eval, Act.put]) 25 zeroDk HB2.out.g1 sizeS rfl zero_one ?_
          refine hK _ _ ?_
          clear hK K
          refine wpAny_ready (rs := [3]) (by kernel_rfl) (by simp) ?_
          refine (AllReady.cons rfl (fun K hK => ?_) AllReady.nil)
          · refine step_assign rfl _ rfl _ rfl ?_
            refine hK _ _ ?_
            clear hK K
            refine wpAny_ready (rs := [4]) (by kernel_rfl) (by simp) ?_
            refine (AllReady.cons rfl (fun K hK => ?_) AllReady.nil)
            · refine step_store_row rfl 28 _ _ rfl (w.heap.size + 2) #[.int .i64 c, .int .i64 i] (by simp [Act.eval, Act.put]) (by simp [Act.eval, Act.put]) 28 _ ((setRow_other _ _ _ _ (by omega)).trans HB2.out.g2) sizeF rfl (by kernel_rfl) ?_
              refine hK _ _ ?_
              clear hK K
              refine wpAny_done (by kernel_rfl) ?_ _
              go_wp2_with fail
              refine bodyPost_ret (results_run rfl _ _ (w.heap.size + 1) (w.heap.size + 2) 25 28 zeroDk #[.int .i64 c, .int .i64 i] (0, 0) (0, 0) _ _ rfl ?_ Tryd.underlying25 rfl sizeS rfl ?_ Tryd.underlying28 rfl sizeF) rfl (bad_fin HB2.out)
              · rw [setRow_other _ _ _ _ (by omega)]; exact setRow_heap _ _ _ _ _ _ HB2.out.g1
              · exact setRow_heap _ _ _ _ _ _ ((setRow_other _ _ _ _ (by omega)).trans HB2.out.g2)
      · refine step_store_row rfl 25 _ _ rfl (w.heap.size + 1) zeroDk (by simp [Act.eval, Act.put]) (by simp [Act.eval, Act.put]) 25 zeroDk HB2.out.g1 sizeS rfl zero_one ?_
        refine hK _ _ ?_
        clear hK K
        refine wpAny_ready (rs := [1, 3]) (by kernel_rfl) (by simp) ?_
        refine (AllReady.cons rfl (fun K hK => ?_) (AllReady.cons rfl (fun K hK => ?_) AllReady.nil))
        · refine step_load_row rfl 28 _ rfl w1.heap.size (by simp [Act.eval, Act.put]) 28 #[.int .i64 c, .int .i64 i] (0, 0) _ ((setRow_other _ _ _ _ (by omega)).trans HF0.out) Tryd.underlying28 rfl sizeF ?_
          refine hK _ _ ?_
          clear hK K
          refine wpAny_ready (rs := [3]) (by kernel_rfl) (by simp) ?_
          refine (AllReady.cons rfl (fun K hK => ?_) AllReady.nil)
          · refine step_assign rfl _ rfl _ rfl ?_
            refine hK _ _ ?_
            clear hK K
            refine wpAny_ready (rs := [4]) (by kernel_rfl) (by simp) ?_
            refine (AllReady.cons rfl (fun K hK => ?_) AllReady.nil)
            · refine step_store_row rfl 28 _ _ rfl (w.heap.size + 2) #[.int .i64 c, .int .i64 i] (by simp [Act.eval, Act.put]) (by simp [Act.eval, Act.put]) 28 _ ((setRow_other _ _ _ _ (by omega)).trans HB2.out.g2) sizeF rfl (by kernel_rfl) ?_
              refine hK _ _ ?_
              clear hK K
              refine wpAny_done (by kernel_rfl) ?_ _
              go_wp2_with fail
              refine bodyPost_ret (results_run rfl _ _ (w.heap.size + 1) (w.heap.size + 2) 25 28 zeroDk #[.int .i64 c, .int .i64 i] (0, 0) (0, 0) _ _ rfl ?_ Tryd.underlying25 rfl sizeS rfl ?_ Tryd.underlying28 rfl sizeF) rfl (bad_fin HB2.out)
              · rw [setRow_other _ _ _ _ (by omega)]; exact setRow_heap _ _ _ _ _ _ HB2.out.g1
              · exact setRow_heap _ _ _ _ _ _ ((setRow_other _ _ _ _ (by omega)).trans HB2.out.g2)
        · refine step_assign rfl _ rfl _ rfl ?_
          refine hK _ _ ?_
          clear hK K
          refine wpAny_ready (rs := [1]) (by kernel_rfl) (by simp) ?_
          refine (AllReady.cons rfl (fun K hK => ?_) AllReady.nil)
          · refine step_load_row rfl 28 _ rfl w1.heap.size (by simp [Act.eval, Act.put]) 28 #[.int .i64 c, .int .i64 i] (0, 0) _ ((setRow_other _ _ _ _ (by omega)).trans HF0.out) Tryd.underlying28 rfl sizeF ?_
            refine hK _ _ ?_
            clear hK K
            refine wpAny_ready (rs := [4]) (by kernel_rfl) (by simp) ?_
            refine (AllReady.cons rfl (fun K hK => ?_) AllReady.nil)
            · refine step_store_row rfl 28 _ _ rfl (w.heap.size + 2) #[.int .i64 c, .int .i64 i] (by simp [Act.eval, Act.put]) (by simp [Act.eval, Act.put]) 28 _ ((setRow_other _ _ _ _ (by omega)).trans HB2.out.g2) sizeF rfl (by kernel_rfl) ?_
              refine hK _ _ ?_
              clear hK K
              refine wpAny_done (by kernel_rfl) ?_ _
              go_wp2_with fail
              refine bodyPost_ret (results_run rfl _ _ (w.heap.size + 1) (w.heap.size + 2) 25 28 zeroDk #[.int .i64 c, .int .i64 i] (0, 0) (0, 0) _ _ rfl ?_ Tryd.underlying25 rfl sizeS rfl ?_ Tryd.underlying28 rfl sizeF) rfl (bad_fin HB2.out)
              · rw [setRow_other _ _ _ _ (by omega)]; exact setRow_heap _ _ _ _ _ _ HB2.out.g1
              · exact setRow_heap _ _ _ _ _ _ ((setRow_other _ _ _ _ (by omega)).trans HB2.out.g2)
  · go_enter Tryd.func16, Tryd.ntmps16
    go_upto_region 0 with (fail)
    go_cut [2, 4, 5, 6] (fun s2 s4 s5 s6 wx => s2 = .pointer (some ⟨w.heap.size, 0, none⟩) ∧ s4 = .pointer (some ⟨w.heap.size + 1, 0, none⟩) ∧ s5 = .int .i64 0 ∧ s6 = .pointer (some ⟨w.heap.size + 2, 0, none⟩) ∧ Begun w wx cs)
    case first =>
      go_wp2_with (refine wpList_allocS rfl rfl ?_)
      go_meet
      exact ⟨rfl, rfl, rfl, rfl, begun_mk w cs⟩
    case rest =>
      obtain ⟨rfl, rfl, rfl, rfl, hbg⟩ := hcut
      have HG0 := Lib.hid hbg.g0
      have HBG := Lib.hid hbg
      clear hbg
      go_wp2_with (refine wpList_load_row rfl 25 _ rfl w.heap.size rfl 25 cs (0, 0) _ HG0.out Tryd.underlying25 rfl (by rw [HS.out]; exact sizeS) ?_)
      refine (HV.out wc HBG.out.x).mono ?_
      rintro e w1 ⟨rfl, hx1⟩
      have hlt1 := (HBG.out.ext hx1).lt
      have HB1 := Lib.hid (HBG.out.ext hx1)
      clear hx1
      simp only [fAgg]
      go_upto_region 3 with (fail)
      have HB2 := Lib.hid ((HB1.out.ext ((Ext.refl w1).alloc (.cells #[.int .i64 0, .int .i64 i] 28))).ext ((Ext.refl _).drew))
      have HF0 := Lib.hid (heap_alloc_new w1 (.cells #[.int .i64 0, .int .i64 i] 28))
      refine wp_region_any (by kernel_rfl) ?_
      refine wpAny_take (i := 0) (v := .agg zeroDk) rfl (by kernel_rfl) (by kernel_rfl) (by kernel_rfl) (fun _ _ _ h => h) (Or.inl ⟨by rfl, fun w => ?_⟩) ?_
      · kernel_rfl
      refine wpAny_ready (rs := [1, 2]) (by kernel_rfl) (by simp) ?_
      refine (AllReady.cons rfl (fun K hK => ?_) (AllReady.cons rfl (fun K hK => ?_) AllReady.nil))
      · refine step_load_row rfl 28 _ rfl w1.heap.size (by simp [Act.eval, Act.put]) 28 #[.int .i64 0, .int .i64 i] (0, 0) _ (HF0.out) Tryd.underlying28 rfl sizeF ?_
        refine hK _ _ ?_
        clear hK K
        refine wpAny_ready (rs := [2]) (by kernel_rfl) (by simp) ?_
        refine (AllReady.cons rfl (fun K hK => ?_) AllReady.nil)
        · refine step_store_row rfl 25 _ _ rfl (w.heap.size + 1) zeroDk (by simp [Act.eval, Act.put]) (by simp [Act.eval, Act.put]) 25 zeroDk HB2.out.g1 sizeS rfl zero_one ?_
          refine hK _ _ ?_
          clear hK K
          refine wpAny_ready (rs := [3]) (by kernel_rfl) (by simp) ?_
          refine (AllReady.cons rfl (fun K hK => ?_) AllReady.nil)
          · refine step_assign rfl _ rfl _ rfl ?_
            refine hK _ _ ?_
            clear hK K
            refine wpAny_ready (rs := [4]) (by kernel_rfl) (by simp) ?_
            refine (AllReady.cons rfl (fun K hK => ?_) AllReady.nil)
            · refine step_store_row rfl 28 _ _ rfl (w.heap.size + 2) #[.int .i64 0, .int .i64 i] (by simp [Act.eval, Act.put]) (by simp [Act.eval, Act.put]) 28 _ ((setRow_other _ _ _ _ (by omega)).trans HB2.out.g2) sizeF rfl (by kernel_rfl) ?_
              refine hK _ _ ?_
              clear hK K
              refine wpAny_done (by kernel_rfl) ?_ _
              go_wp2_with fail
              refine bodyPost_ret (results_run rfl _ _ (w.heap.size + 1) (w.heap.size + 2) 25 28 zeroDk #[.int .i64 0, .int .i64 i] (0, 0) (0, 0) _ _ rfl ?_ Tryd.underlying25 rfl sizeS rfl ?_ Tryd.underlying28 rfl sizeF) rfl (bad_fin HB2.out)
              · rw [setRow_other _ _ _ _ (by omega)]; exact setRow_heap _ _ _ _ _ _ HB2.out.g1
              · exact setRow_heap _ _ _ _ _ _ ((setRow_other _ _ _ _ (by omega)).trans HB2.out.g2)
      · refine step_store_row rfl 25 _ _ rfl (w.heap.size + 1) zeroDk (by simp [Act.eval, Act.put]) (by simp [Act.eval, Act.put]) 25 zeroDk HB2.out.g1 sizeS rfl zero_one ?_
        refine hK _ _ ?_
        clear hK K
        refine wpAny_ready (rs := [1, 3]) (by kernel_rfl) (by simp) ?_
        refine (AllReady.cons rfl (fun K hK => ?_) (AllReady.cons rfl (fun K hK => ?_) AllReady.nil))
        · refine step_load_row rfl 28 _ rfl w1.heap.size (by simp [Act.eval, Act.put]) 28 #[.int .i64 0, .int .i64 i] (0, 0) _ ((setRow_other _ _ _ _ (by omega)).trans HF0.out) Tryd.underlying28 rfl sizeF ?_
          refine hK _ _ ?_
          clear hK K
          refine wpAny_ready (rs := [3]) (by kernel_rfl) (by simp) ?_
          refine (AllReady.cons rfl (fun K hK => ?_) AllReady.nil)
          · refine step_assign rfl _ rfl _ rfl ?_
            refine hK _ _ ?_
            clear hK K
            refine wpAny_ready (rs := [4]) (by kernel_rfl) (by simp) ?_
            refine (AllReady.cons rfl (fun K hK => ?_) AllReady.nil)
            · refine step_store_row rfl 28 _ _ rfl (w.heap.size + 2) #[.int .i64 0, .int .i64 i] (by simp [Act.eval, Act.put]) (by simp [Act.eval, Act.put]) 28 _ ((setRow_other _ _ _ _ (by omega)).trans HB2.out.g2) sizeF rfl (by kernel_rfl) ?_
              refine hK _ _ ?_
              clear hK K
              refine wpAny_done (by kernel_rfl) ?_ _
              go_wp2_with fail
              refine bodyPost_ret (results_run rfl _ _ (w.heap.size + 1) (w.heap.size + 2) 25 28 zeroDk #[.int .i64 0, .int .i64 i] (0, 0) (0, 0) _ _ rfl ?_ Tryd.underlying25 rfl sizeS rfl ?_ Tryd.underlying28 rfl sizeF) rfl (bad_fin HB2.out)
              · rw [setRow_other _ _ _ _ (by omega)]; exact setRow_heap _ _ _ _ _ _ HB2.out.g1
              · exact setRow_heap _ _ _ _ _ _ ((setRow_other _ _ _ _ (by omega)).trans HB2.out.g2)
        · refine step_assign rfl _ rfl _ rfl ?_
          refine hK _ _ ?_
          clear hK K
          refine wpAny_ready (rs := [1]) (by kernel_rfl) (by simp) ?_
          refine (AllReady.cons rfl (fun K hK => ?_) AllReady.nil)
          · refine step_load_row rfl 28 _ rfl w1.heap.size (by simp [Act.eval, Act.put]) 28 #[.int .i64 0, .int .i64 i] (0, 0) _ ((setRow_other _ _ _ _ (by omega)).trans HF0.out) Tryd.underlying28 rfl sizeF ?_
            refine hK _ _ ?_
            clear hK K
            refine wpAny_ready (rs := [4]) (by kernel_rfl) (by simp) ?_
            refine (AllReady.cons rfl (fun K hK => ?_) AllReady.nil)
            · refine step_store_row rfl 28 _ _ rfl (w.heap.size + 2) #[.int .i64 0, .int .i64 i] (by simp [Act.eval, Act.put]) (by simp [Act.eval, Act.put]) 28 _ ((setRow_other _ _ _ _ (by omega)).trans HB2.out.g2) sizeF rfl (by kernel_rfl) ?_
              refine hK _ _ ?_
              clear hK K
              refine wpAny_done (by kernel_rfl) ?_ _
              go_wp2_with fail
              refine bodyPost_ret (results_run rfl _ _ (w.heap.size + 1) (w.heap.size + 2) 25 28 zeroDk #[.int .i64 0, .int .i64 i] (0, 0) (0, 0) _ _ rfl ?_ Tryd.underlying25 rfl sizeS rfl ?_ Tryd.underlying28 rfl sizeF) rfl (bad_fin HB2.out)
              · rw [setRow_other _ _ _ _ (by omega)]; exact setRow_heap _ _ _ _ _ _ HB2.out.g1
              · exact setRow_heap _ _ _ _ _ _ ((setRow_other _ _ _ _ (by omega)).trans HB2.out.g2)
end Go.Proofs.YtbaahbpianingaaDoor
namespace Go.Proofs.YtbaahbpianingaaDoor
open Go Go.Proofs Go.RowKit
open Acc (Dk red five)
set_option maxHeartbeats 3200000
set_option maxRecDepth 100000
theorem range_fin {w W : World} {cs : Array Value} {c i : Int} (h : Begun w W cs) : RunRet w (dk0, 0, (c, i)) (.returned (.tuple #[.agg zeroDk, .int .i64 0, .agg #[.int .i64 c, .int .i64 i]])) ((W.setRow (w.heap.size + 1) zeroDk).setRow (w.heap.size + 2) #[.int .i64 c, .int .i64 i]) :=
  ⟨zeroDk, rfl, fun F _ => zero_is F, (h.x.setRow (by omega) _).setRow (by omega) _⟩
theorem run_range (cs : Array Value) (s : Dk) (n : Int) (w : World) (h : DkIs w cs s) (hf : faultD s = (0, 0)) (hn : ¬ (0 ≤ n ∧ n ≤ 60000)) : Calls Tryd.prog 16 #[.agg cs, .int .i64 n] w (RunRet w (runG s n)) := by
  have he : runG s n = (dk0, 0, (4, -2)) := by unfold runG; rw [if_pos hf, if_neg hn]
  rw [he]
  have HV := Lib.hid (fun (W : World) (hx : Ext w W) => hf ▸ Valid_c cs s W (h.ext hx))
  have HS := Lib.hid h.size
  have hcs : n < 0 ∨ (0 ≤ n ∧ 60000 < n) := by omega
  clear hf he h hn
  rcases hcs with h1 | ⟨h1, h2⟩
  · go_enter Tryd.func16, Tryd.ntmps16
    go_upto_region 0 with (fail)
    go_cut [2, 4, 5, 6] (fun s2 s4 s5 s6 wx => s2 = .pointer (some ⟨w.heap.size, 0, none⟩) ∧ s4 = .pointer (some ⟨w.heap.size + 1, 0, none⟩) ∧ s5 = .int .i64 0 ∧ s6 = .pointer (some ⟨w.heap.size + 2, 0, none⟩) ∧ Begun w wx cs)
    case first =>
      go_wp2_with (refine wpList_allocS rfl rfl ?_)
      go_meet
      exact ⟨rfl, rfl, rfl, rfl, begun_mk w cs⟩
    case rest =>
      obtain ⟨rfl, rfl, rfl, rfl, hbg⟩ := hcut
      have HG0 := Lib.hid hbg.g0
      have HBG := Lib.hid hbg
      clear hbg
      go_wp2_with (refine wpList_load_row rfl 25 _ rfl w.heap.size rfl 25 cs (0, 0) _ HG0.out Tryd.underlying25 rfl (by rw [HS.out]; exact sizeS) ?_)
      refine (HV.out wc HBG.out.x).mono ?_
      rintro e w1 ⟨rfl, hx1⟩
      have hlt1 := (HBG.out.ext hx1).lt
      have HB1 := Lib.hid (HBG.out.ext hx1)
      clear hx1
      simp only [fAgg]
      have HB2 := Lib.hid ((HB1.out.ext ((Ext.refl w1).alloc (.cells #[.int .i64 0, .int .i64 0] 28))).ext ((Ext.refl _).alloc (.cells #[.int .i64 4, .int .i64 (-2)] 28)))
      have HB3 := Lib.hid ((setRow_other ((w1.alloc (.cells #[.int .i64 0, .int .i64 0] 28)).alloc (.cells #[.int .i64 4, .int .i64 (-2)] 28)) (w.heap.size + 1) (w.heap.size + 2) zeroDk (by omega)).trans HB2.out.g2)
      go_wp2_with (first | refine wpList_buildS rfl rfl ?_ | (go_at_call 40; refine (fault_c _ _ _).mono ?_; rintro e w' ⟨rfl, rfl⟩) | refine wpList_store_row rfl 25 _ _ rfl (w.heap.size + 1) zeroDk rfl rfl 25 zeroDk HB2.out.g1 sizeS rfl zero_one ?_ | refine wpList_store_row rfl 28 _ _ rfl (w.heap.size + 2) #[.int .i64 4, .int .i64 (-2)] rfl rfl 28 _ HB3.out sizeF rfl (by kernel_rfl) ?_)
      refine bodyPost_ret (results_run rfl _ _ (w.heap.size + 1) (w.heap.size + 2) 25 28 zeroDk #[.int .i64 4, .int .i64 (-2)] (0, 0) (0, 0) _ _ rfl ?_ Tryd.underlying25 rfl sizeS rfl ?_ Tryd.underlying28 rfl sizeF) rfl (range_fin HB2.out)
      · rw [setRow_other _ _ _ _ (by omega)]; exact setRow_heap _ _ _ _ _ _ HB2.out.g1
      · exact setRow_heap _ _ _ _ _ _ HB3.out
  · go_enter Tryd.func16, Tryd.ntmps16
    go_upto_region 0 with (fail)
    go_cut [2, 4, 5, 6] (fun s2 s4 s5 s6 wx => s2 = .pointer (some ⟨w.heap.size, 0, none⟩) ∧ s4 = .pointer (some ⟨w.heap.size + 1, 0, none⟩) ∧ s5 = .int .i64 0 ∧ s6 = .pointer (some ⟨w.heap.size + 2, 0, none⟩) ∧ Begun w wx cs)
    case first =>
      go_wp2_with (refine wpList_allocS rfl rfl ?_)
      go_meet
      exact ⟨rfl, rfl, rfl, rfl, begun_mk w cs⟩
    case rest =>
      obtain ⟨rfl, rfl, rfl, rfl, hbg⟩ := hcut
      have HG0 := Lib.hid hbg.g0
      have HBG := Lib.hid hbg
      clear hbg
      go_wp2_with (refine wpList_load_row rfl 25 _ rfl w.heap.size rfl 25 cs (0, 0) _ HG0.out Tryd.underlying25 rfl (by rw [HS.out]; exact sizeS) ?_)
      refine (HV.out wc HBG.out.x).mono ?_
      rintro e w1 ⟨rfl, hx1⟩
      have hlt1 := (HBG.out.ext hx1).lt
      have HB1 := Lib.hid (HBG.out.ext hx1)
      clear hx1
      simp only [fAgg]
      have HB2 := Lib.hid ((HB1.out.ext ((Ext.refl w1).alloc (.cells #[.int .i64 0, .int .i64 0] 28))).ext ((Ext.refl _).alloc (.cells #[.int .i64 4, .int .i64 (-2)] 28)))
      have HB3 := Lib.hid ((setRow_other ((w1.alloc (.cells #[.int .i64 0, .int .i64 0] 28)).alloc (.cells #[.int .i64 4, .int .i64 (-2)] 28)) (w.heap.size + 1) (w.heap.size + 2) zeroDk (by omega)).trans HB2.out.g2)
      go_wp2_with (first | refine wpList_buildS rfl rfl ?_ | (go_at_call 40; refine (fault_c _ _ _).mono ?_; rintro e w' ⟨rfl, rfl⟩) | refine wpList_store_row rfl 25 _ _ rfl (w.heap.size + 1) zeroDk rfl rfl 25 zeroDk HB2.out.g1 sizeS rfl zero_one ?_ | refine wpList_store_row rfl 28 _ _ rfl (w.heap.size + 2) #[.int .i64 4, .int .i64 (-2)] rfl rfl 28 _ HB3.out sizeF rfl (by kernel_rfl) ?_)
      refine bodyPost_ret (results_run rfl _ _ (w.heap.size + 1) (w.heap.size + 2) 25 28 zeroDk #[.int .i64 4, .int .i64 (-2)] (0, 0) (0, 0) _ _ rfl ?_ Tryd.underlying25 rfl sizeS rfl ?_ Tryd.underlying28 rfl sizeF) rfl (range_fin HB2.out)
      · rw [setRow_other _ _ _ _ (by omega)]; exact setRow_heap _ _ _ _ _ _ HB2.out.g1
      · exact setRow_heap _ _ _ _ _ _ HB3.out
end Go.Proofs.YtbaahbpianingaaDoor
namespace Go.Proofs.YtbaahbpianingaaDoor
open Go Go.Proofs Go.RowKit
set_option maxHeartbeats 1000000
def CloneRet (w : World) (e : TypeId) (k : IntKind) (l : List Int) (r : Ending) (w' : World) : Prop :=
  ∃ v, r = .returned v ∧ w'.ownsRow w.heap.size e 1 v l.length (l.map (Value.int k)) ∧ Ext w w'
theorem Clone8_c (A : Option Addr) (l : List Int) (c : Nat) (w : World) (hl : l.length ≤ 2000) (h : Sl w .u8 A l) (hA : A = none → c = 0) :
    Calls Tryd.prog 41 #[.slice A l.length c] w (CloneRet w 5 .u8 l) := by
  obtain ⟨i0, hi, hz0, hz1, hz2⟩ := info_parts infoB
  cases A with
  | none =>
    have hl0 : l = [] := by
      cases l with
      | nil => rfl
      | cons x r => obtain ⟨a, ha, _⟩ := h.one (i := 0) rfl; cases ha
    subst hl0
    obtain rfl := hA rfl
    have he := Lib.run_eql_slice_nil (P := Tryd.prog) w 23 5 none 0 0 0 0 Tryd.underlying23
    go_enter Tryd.func41, Tryd.ntmps41
    go_wp2
    go_ret
    exact ⟨_, rfl, World.ownsRow_nil _ _ _ _, Ext.refl _⟩
  | some a =>
    have he := Lib.run_eql_slice_nil (P := Tryd.prog) w 23 5 (some a) l.length c 0 0 Tryd.underlying23
    go_enter Tryd.func41, Tryd.ntmps41
    go_wp2_with (at_builtin; refine wpList_append_sl rfl _ _ 23 rfl w.heap.size 5 i0 (.int .u8 0) 1 1 Tryd.underlying23 hi hz0 hz1 hz2 rfl (by decide) _ 0 [] rfl (World.ownsRow_made _ _ 0 (Nat.le_refl _) (by simp [maxLen]) (by simp)) (some a) l.length c (l.map (Value.int .u8)) rfl (SlC.ext h ((Ext.refl _).alloc _)) (by simp) ints_one ?_ ?_ ?_ ?_)
    case _ => unfold maxLen; omega
    case _ => omega
    case _ => simp
    intro v' w1 ho hg hat
    go_wp2
    go_ret
    refine ⟨v', rfl, by simpa using ho, ?_⟩
    exact Below.grown ((Ext.refl w).alloc _) hg (by simp) (fun k hk => by simp [Value.ownBlock] at hk; omega)
end Go.Proofs.YtbaahbpianingaaDoor
