import Derived.Test.YtbaahbpianingaaGreatDoorMg20
import Derived.Test.YtbaahbpianingaaGreatDoorMg16
namespace Go.Proofs.YtbaahbpianingaaGreatDoor
open Go Go.Proofs Go.RowKit
open Tape (Rule Ts)
set_option maxHeartbeats 3200000
set_option maxRecDepth 100000
/-- These cells read as s in every world that keeps what is not bad. -/
def TsAv (bad : Nat → Prop) (w : World) (cs : Array Value) (s : Ts) : Prop := ∀ F : World, (∀ g, ¬ bad g → g < w.heap.size → F.heap[g]? = w.heap[g]?) → TsIs F cs s
theorem TsAv.st {bad : Nat → Prop} {w : World} {cs : Array Value} {s : Ts} (h : TsAv bad w cs s) : TsIs w cs s := h w fun _ _ _ => rfl
/-- What the specification's step returns. -/
def TpRet (bad : Nat → Prop) (w : World) (s : Ts) (e : Ending) (w' : World) : Prop := ∃ cs', e = .returned (.agg cs') ∧ TsAv bad w' cs' s ∧ Ext w w'
def badT2 (bad : Nat → Prop) (B g : Nat) : Prop := bad g ∨ g = B ∨ g = B + 1
/-- The two variables of a step, ahead of any store. -/
structure TBox (w wx : World) (cs : Array Value) : Prop where
  b1 : wx.heap[w.heap.size]? = some (.cells cs 25 (0, 0))
  b2 : wx.heap[w.heap.size + 1]? = some (.cells zeroTs 25 (0, 0))
  x : Ext w wx
/-- The same behind a store: the state is s. -/
structure TFin (bad : Nat → Prop) (w wx : World) (s : Ts) (cs : Array Value) : Prop where
  b1 : wx.heap[w.heap.size]? = some (.cells cs 25 (0, 0))
  b2 : wx.heap[w.heap.size + 1]? = some (.cells zeroTs 25 (0, 0))
  st : TsAv (badT2 bad w.heap.size) wx cs s
  x : Ext w wx
/-- A row is being filled. -/
structure TFl (w wx : World) (cs : Array Value) (l : List Int) (v : Value) : Prop where
  t : TBox w wx cs
  own : wx.ownsRow (w.heap.size + 2) 3 1 v l.length (l.map (Value.int .i64))
section
variable {bad : Nat → Prop} {w wx w2 : World} {s s' : Ts} {cs : Array Value} {l : List Int} {v : Value}
theorem TBox.lt (h : TBox w wx cs) : w.heap.size + 1 < wx.heap.size := (Array.getElem?_eq_some_iff.1 h.b2).1
theorem TBox.cell (h : TBox w wx cs) (i : Nat) : wx.cell? ⟨w.heap.size, i, none⟩ = cs[i]? := blk_cell h.b1 i
theorem TBox.frozen (h : TBox w wx cs) (i : Nat) : wx.frozen? ⟨w.heap.size, i, none⟩ = false := blk_frozen h.b1 i
theorem TBox.ext (h : TBox w wx cs) (x : Ext wx w2) : TBox w w2 cs := ⟨ext_heap x h.b1, ext_heap x h.b2, h.x.trans x⟩
theorem TBox.mk0 (w : World) (cs : Array Value) : TBox w ((w.alloc (.cells cs 25)).alloc (.cells zeroTs 25)) cs :=
  ⟨heap_alloc2_old w _ _, heap_alloc2_new w _ _, ((Ext.refl w).alloc _).alloc _⟩
theorem TFin.lt (h : TFin bad w wx s cs) : w.heap.size + 1 < wx.heap.size := (Array.getElem?_eq_some_iff.1 h.b2).1
theorem TFin.is (h : TFin bad w wx s cs) : TsIs wx cs s := h.st.st
theorem TFin.cell (h : TFin bad w wx s cs) (i : Nat) : wx.cell? ⟨w.heap.size, i, none⟩ = cs[i]? := blk_cell h.b1 i
theorem TFin.frozen (h : TFin bad w wx s cs) (i : Nat) : wx.frozen? ⟨w.heap.size, i, none⟩ = false := blk_frozen h.b1 i
theorem TBox.fin (h : TBox w wx cs) (ha : TsAv bad w cs s) : TFin bad w wx s cs := by
  refine ⟨h.b1, h.b2, fun F hF => ha F fun g hg hl => ?_, h.x⟩
  rw [hF g (fun q => by rcases q with q | q | q; exact hg q; omega; omega) (Nat.lt_of_lt_of_le hl h.x.size)]
  exact h.x.block g hl
theorem TFin.set (h : TFin bad w wx s cs) {i : Nat} {u : Value} (hf : ∀ F, TsIs F cs s → TsIs F (cs.setIfInBounds i u) s') : TFin bad w (wx.setCell ⟨w.heap.size, i, none⟩ u) s' (cs.setIfInBounds i u) := by
  refine ⟨heap_set_self h.b1 i u, ?_, fun F hF => hf F (h.st F fun g hg hl => ?_), h.x.setCell (p := ⟨w.heap.size, i, none⟩) (Nat.le_refl _) u⟩
  · rw [Below.heap_setCell _ _ _ _ (by show w.heap.size + 1 ≠ w.heap.size; omega)]; exact h.b2
  · rw [hF g hg (by rw [World.size_setCell]; exact hl)]
    exact Below.heap_setCell _ _ _ _ (fun e => hg (.inr (.inl e)))
theorem TFin.fin (h : TFin bad w wx s cs) : TpRet bad w s (.returned (.agg cs)) (wx.setRow (w.heap.size + 1) cs) := by
  refine ⟨cs, rfl, fun F hF => h.st F fun g hg hl => ?_, h.x.setRow (by omega) _⟩
  rw [hF g (fun q => hg (.inl q)) (by simpa [World.setRow] using hl)]
  exact setRow_other _ _ _ _ (fun e => hg (.inr (.inr e)))
theorem tsIs_set (h : TsIs w cs s) (i : Nat) (u : Value) (s' : Ts) (er : RlAt w (if i = 0 then some u else cs[0]?) s'.rules) (ec : SlAt w .i64 (if i = 1 then some u else cs[1]?) s'.cells)
    (e2 : (if i = 2 then some u else some (.int .i64 s.at_)) = some (.int .i64 s'.at_)) (e3 : (if i = 3 then some u else some (.int .i64 s.state)) = some (.int .i64 s'.state)) (e4 : (if i = 4 then some u else some (.int .i64 s.stop)) = some (.int .i64 s'.stop))
    (hwf : TsWf s') : TsIs w (cs.setIfInBounds i u) s' := by
  have hsz := h.size
  refine ⟨by simpa using hsz, ?_, ?_, ?_, ?_, ?_, hwf⟩
  · rw [getD_set]
    by_cases q : i = 0
    · rw [if_pos q] at er ⊢; rw [if_pos (by omega)]; exact er
    · rw [if_neg q] at er ⊢; exact er
  · rw [getD_set]
    by_cases q : i = 1
    · rw [if_pos q] at ec ⊢; rw [if_pos (by omega)]; exact ec
    · rw [if_neg q] at ec ⊢; exact ec
  · rw [getD_set, ← e2, h.at_]; split
    · rw [if_pos (by omega)]
    · rfl
  · rw [getD_set, ← e3, h.state]; split
    · rw [if_pos (by omega)]
    · rfl
  · rw [getD_set, ← e4, h.stop]; split
    · rw [if_pos (by omega)]
    · rfl
theorem at_setT (h : TsIs w cs s) {n : Int} (hn : I64 n) : TsIs w (cs.setIfInBounds 2 (.int .i64 n)) { s with at_ := n } :=
  tsIs_set h 2 _ _ h.rules h.cells rfl rfl rfl { h.wf with at_ := hn }
theorem state_setT (h : TsIs w cs s) {n : Int} (hn : I64 n) : TsIs w (cs.setIfInBounds 3 (.int .i64 n)) { s with state := n } :=
  tsIs_set h 3 _ _ h.rules h.cells rfl rfl rfl { h.wf with state := hn }
theorem stop_setT (h : TsIs w cs s) {n : Int} (hn : I64 n) : TsIs w (cs.setIfInBounds 4 (.int .i64 n)) { s with stop := n } :=
  tsIs_set h 4 _ _ h.rules h.cells rfl rfl rfl { h.wf with stop := hn }
theorem TFl.fin (h : TFl w wx cs l v) (ha : TsAv bad w cs s) (hb : ∀ g, bad g → g < w.heap.size) (hl : ∀ x ∈ l, I64 x) :
    TFin bad w (wx.setCell ⟨w.heap.size, 1, none⟩ v) { s with cells := l } (cs.setIfInBounds 1 v) := by
  have h0 := h.t.fin ha
  refine ⟨heap_set_self h.t.b1 1 v, ?_, fun F hF => ?_, h.t.x.setCell (p := ⟨w.heap.size, 1, none⟩) (Nat.le_refl _) v⟩
  · rw [Below.heap_setCell _ _ _ _ (by show w.heap.size + 1 ≠ w.heap.size; omega)]; exact h.t.b2
  · have hF2 : ∀ g, ¬ badT2 bad w.heap.size g → g < wx.heap.size → F.heap[g]? = wx.heap[g]? := fun g hg hl => by
      rw [hF g hg (by rw [World.size_setCell]; exact hl)]
      exact Below.heap_setCell _ _ _ _ (fun e => hg (.inr (.inl e)))
    have hi := h0.st F hF2
    refine tsIs_set hi 1 _ _ hi.rules ?_ rfl rfl rfl { hi.wf with cells := hl }
    exact own_at h.own fun g hg => by
      have := own_lt h.own hg
      exact hF2 g (fun q => by rcases q with q | q | q; have := hb g q; omega; omega; omega) this.2
theorem grow_box {row : Option Nat} (h : TBox w wx cs) (hg : wx.grownBy w2 row) (hr : ∀ g, row = some g → w.heap.size + 2 ≤ g) : TBox w w2 cs := by
  have hlt := h.lt
  refine ⟨?_, ?_, ⟨hg.os.trans h.x.os, hg.tape.trans h.x.tape, hg.output.trans h.x.output, Nat.le_trans h.x.size hg.size, fun g hl => ?_⟩⟩
  · rw [hg.block _ (by omega) (fun e => by have := hr _ e.symm; omega)]; exact h.b1
  · rw [hg.block _ (by omega) (fun e => by have := hr _ e.symm; omega)]; exact h.b2
  · rw [hg.block _ (by omega) (fun e => by have := hr _ e.symm; omega)]; exact h.x.block g hl
theorem TFl.mk0 (h : TBox w wx cs) : TFl w wx cs [] (.slice none 0 0) := ⟨h, World.ownsRow_nil _ _ _ _⟩
theorem TFl.add {w3 : World} {v3 : Value} {i : Int} {o : Obj} (h : TFl w wx cs l v)
    (ho : w3.ownsRow (w.heap.size + 2) 3 1 v3 (l.length + 1) (l.map (Value.int .i64) ++ [.int .i64 i])) (hg : (wx.alloc o).grownBy w3 v.ownBlock) : TFl w w3 cs (l ++ [i]) v3 := by
  refine ⟨grow_box (h.t.ext ((Ext.refl wx).alloc o)) hg (fun g hq => (own_lt h.own hq).1), ?_⟩
  rw [List.length_append, List.map_append]
  exact ho
theorem TsIs.rls {A : Option Addr} {k c : Nat} (h : TsIs w cs s) (e : cs[0]? = some (.slice A k c)) : Rls w A s.rules := by
  obtain ⟨A', c', e', _, _, _, h5⟩ := h.rules
  rw [e] at e'
  cases e'
  exact h5
theorem TsIs.sl {A : Option Addr} {k c : Nat} (h : TsIs w cs s) (e : cs[1]? = some (.slice A k c)) : Sl w .i64 A s.cells := by
  obtain ⟨A', c', e', _, _, _, h5⟩ := h.cells
  rw [e] at e'
  cases e'
  exact h5
end
theorem idx_rule {s : Ts} {k : Nat} {r : Rule} (h : noneR s k) (hr : s.rules[k]? = some r) (hf : Tape.fits s r = true) : Tape.ruleOf s = some r := by
  have h1 := idxR_some h hr hf
  rcases idxR_rule (s := s) with ⟨h2, _⟩ | ⟨i, r', h2, h3, h4⟩
  · omega
  · have : i = k := by omega
    subst this
    rw [hr] at h3
    cases h3
    exact h4
theorem idx_norule {s : Ts} {k : Nat} (h : noneR s k) (h1 : s.rules.length ≤ k) : Tape.ruleOf s = none := by
  have h1 := idxR_none h h1
  rcases idxR_rule (s := s) with ⟨_, h2⟩ | ⟨i, r', h2, _, _⟩
  · exact h2
  · omega
theorem step_none {s : Ts} (h : Tape.ruleOf s = none) : Tape.stepF s = { s with stop := 2 } := by unfold Tape.stepF; rw [h]
theorem step_some {s : Ts} {r : Rule} (h : Tape.ruleOf s = some r) : Tape.stepF s = Tape.actF s r := by unfold Tape.stepF; rw [h]
theorem results_oneT {P : Program} {fn : Func} {p : Tmp} {tp : TypeId} (h : fn.results = #[.cell p tp]) (tmps : Array Value) (w : World) (g : Nat) (t : TypeId) (cs : Array Value) (fr : Nat × Nat) (d : TypeDesc)
    (hp : tmps.getD p undef = .pointer (some ⟨g, 0, none⟩)) (hg : w.heap[g]? = some (.cells cs t fr)) (hu : P.underlying tp = some d) (hd : (match d with | .struct _ | .array _ _ => true | _ => false) = true) (hi : (P.info? tp).map (·.size) = some cs.size) :
    (results fn tmps).run P w = .ok (.agg cs) w := results_cell_row h tmps w g t cs fr d hp hg hu hd hi
theorem results_ranT {P : Program} {fn : Func} {p u : Tmp} {tp : TypeId} (h : fn.results = #[.cell p tp, .tmp u]) (tmps : Array Value) (w : World) (g : Nat) (t : TypeId) (cs : Array Value) (fr : Nat × Nat) (d : TypeDesc)
    (hp : tmps.getD p undef = .pointer (some ⟨g, 0, none⟩)) (hg : w.heap[g]? = some (.cells cs t fr)) (hu : P.underlying tp = some d) (hd : (match d with | .struct _ | .array _ _ => true | _ => false) = true) (hi : (P.info? tp).map (·.size) = some cs.size) :
    (results fn tmps).run P w = .ok (.tuple #[.agg cs, tmps.getD u undef]) w := by
  have hp' : tmps[p]?.getD undef = .pointer (some ⟨g, 0, none⟩) := by simpa using hp
  simp [results, h, hp', asAddr, run_loadVar_row w g t tp cs fr d hg hu hd hi]
theorem wp_worldT {P : Program} {c : Code} {Q : Exit → Act → World → Prop} {a : Act} {W : World} (R : World → Prop) (h : R W) (k : ∀ wx, R wx → Code.wp P c Q a wx) : Code.wp P c Q a W := k W h
/-- What the tape is behind a step. -/
theorem set_get (l : List Int) (p : Nat) (x : Int) : ∀ k : Nat, k < l.length → (k = p → (l.set p x)[k]? = some x) ∧ (k ≠ p → (l.set p x)[k]? = some (l[k]?.getD 0)) := by
  intro k hk
  rw [List.getElem?_set]
  refine ⟨fun e => ?_, fun e => ?_⟩
  · rw [if_pos e.symm, if_pos (by omega)]
  · rw [if_neg (fun q => e q.symm), List.getElem?_eq_getElem hk]
    rfl
end Go.Proofs.YtbaahbpianingaaGreatDoor
namespace Go.Proofs.YtbaahbpianingaaGreatDoor
open Go Go.Proofs Go.RowKit
open Tape (Rule Ts)
set_option maxHeartbeats 6400000
set_option maxRecDepth 100000
theorem start_bad {L : List Rule} {l : List Int} (h : faultR L ≠ (0, 0)) : (startGT L l).2 = faultR L := by unfold startGT; rw [if_neg h]
theorem start_long {L : List Rule} {l : List Int} (h : faultR L = (0, 0)) (h2 : 200 < l.length) : (startGT L l).2 = (9, -2) := by unfold startGT; rw [if_pos h, if_pos h2]
theorem start_sym {L : List Rule} {l : List Int} (h : faultR L = (0, 0)) (h2 : ¬ 200 < l.length) (h3 : badB l = true) : (startGT L l).2 = (4, -2) := by unfold startGT; rw [if_pos h, if_neg h2, if_pos h3]
theorem start_ok {L : List Rule} {l : List Int} (h : faultR L = (0, 0)) (h2 : ¬ 200 < l.length) (h3 : badB l = false) : (startGT L l).2 = (0, 0) := by unfold startGT; rw [if_pos h, if_neg h2, if_neg (by rw [h3]; decide)]
theorem bad_at {l : List Int} {k : Nat} {x : Int} (hx : l[k]? = some x) (h : symB x = false) : badB l = true := by
  unfold badB
  rw [List.any_eq_true]
  exact ⟨x, List.mem_of_getElem? hx, by rw [h]; rfl⟩
theorem startFault_c (A B : Option Addr) (L : List Rule) (l : List Int) (c' d' : Nat) (w : World) (hl : L.length ≤ maxLen) (h1 : Rls w A L) (hwf : ∀ r ∈ L, RuleWf r) (hm : l.length ≤ maxLen) (h2 : Sl w .i64 B l) :
    Calls Tryz.prog 8 #[.slice A L.length c', .slice B l.length d'] w (FRet w (startGT L l).2) := by
  have HRF := Lib.hid (fun (W : World) (x : Ext w W) => RulesFault_c A L c' W hl (h1.ext x) hwf)
  have HSL := Lib.hid (fun (W : World) (x : Ext w W) => Sl.ext h2 x)
  unfold maxLen at hm
  obtain ⟨R, hR⟩ : ∃ R, R = (startGT L l).2 := ⟨_, rfl⟩
  have HR := Lib.hid hR
  rw [← hR]
  obtain ⟨fc, fi, hf⟩ : ∃ fc fi, faultR L = (fc, fi) := ⟨_, _, rfl⟩
  have HF := Lib.hid hf
  obtain ⟨n, hn⟩ : ∃ n, n = L.length := ⟨_, rfl⟩
  obtain ⟨m, hm2⟩ : ∃ m, m = l.length := ⟨_, rfl⟩
  have HN := Lib.hid hn
  have HM := Lib.hid hm2
  rw [hf, ← hn] at HRF
  rw [← hm2] at hm
  rw [← hn, ← hm2]
  clear hR hf hn hm2 h1 h2 hwf hl
  go_enter Tryz.func8, Tryz.ntmps8
  go_upto_region 0 with (fail)
  go_cut [4] (fun s4 wx => s4 = .pointer (some ⟨w.heap.size, 0, none⟩) ∧ wx.heap[w.heap.size]? = some (.cells #[.int .i64 0, .int .i64 0] 27 (0, 0)) ∧ Ext w wx)
  case first =>
    go_wp2_with fail
    go_meet
    exact ⟨rfl, heap_alloc_new w _, (Ext.refl w).alloc _⟩
  obtain ⟨rfl, hb, hx⟩ := hcut
  obtain ⟨wa, rfl⟩ : ∃ wa : World, wa = wc := ⟨_, rfl⟩
  have HB := Lib.hid hb
  have HX := Lib.hid hx
  have hlt := (Array.getElem?_eq_some_iff.1 hb).1
  clear hb hx
  go_upto_region 1 with (fail)
  go_cut [5] (fun s5 wx => ∃ g5, s5 = .pointer (some ⟨g5, 0, none⟩) ∧ w.heap.size < g5 ∧ wx.heap[g5]? = some (.cells #[.int .i64 fc, .int .i64 fi] 27 (0, 0)) ∧ Ext wa wx)
  case first =>
    have HRR := Lib.hid (HRF.out wa HX.out)
    go_wp2_with fail
    refine HRR.out.mono ?_
    rintro e w1 ⟨rfl, hx1⟩
    have HX1 := Lib.hid hx1
    have HZ := Lib.hid (heap_alloc_new w1 (.cells #[.int .i64 0, .int .i64 0] 27))
    clear hx1
    simp only [fAgg]
    go_wp2_with (refine wpList_store_row rfl 27 _ _ rfl w1.heap.size #[.int .i64 fc, .int .i64 fi] rfl rfl 27 _ HZ.out sizeF rfl (by kernel_rfl) ?_)
    go_meet
    exact ⟨_, rfl, Nat.lt_of_lt_of_le hlt HX1.out.size, setRow_heap _ _ _ _ _ _ HZ.out, HX1.out.trans (((Ext.refl w1).alloc _).setRow (Nat.le_refl _) _)⟩
  obtain ⟨g5, rfl, hg5, hb5, hx5⟩ := hcut
  obtain ⟨wb, rfl⟩ : ∃ wb : World, wb = wc := ⟨_, rfl⟩
  have HXB := Lib.hid (HX.out.trans hx5)
  have HBB := Lib.hid (ext_heap hx5 HB.out)
  have HB5 := Lib.hid hb5
  have k0 : wb.cell? ⟨g5, 0, none⟩ = some (.int .i64 fc) := blk_cell hb5 0
  have hlt5 := (Array.getElem?_eq_some_iff.1 hb5).1
  clear hx5 hb5 hlt
  go_upto_region 2 with (fail)
  go_cut [16] (fun s16 wx => ∃ bb : Bool, s16 = .bool bb ∧ Hid (bb = (decide (fc = 0) && decide (200 < m))) ∧ wb = wx)
  case first =>
    by_cases q1 : fc = 0
    · have e1 : (fc == 0) = true := by simpa using q1
      have HQ1 := Lib.hid q1
      by_cases q2 : 200 < m
      · have e2 : decide ((m : Int) > 200) = true := decide_eq_true (by omega)
        have HQ2 := Lib.hid q2
        clear q1 q2
        go_wp2_with fail
        go_meet
        exact ⟨true, by first | rfl | simp [e2], Lib.hid (by rw [decide_eq_true HQ1.out, decide_eq_true HQ2.out]; rfl), rfl⟩
      · have e2 : decide ((m : Int) > 200) = false := decide_eq_false (by omega)
        have HQ2 := Lib.hid q2
        clear q1 q2
        go_wp2_with fail
        go_meet
        exact ⟨false, by first | rfl | simp [e2], Lib.hid (by rw [decide_eq_false HQ2.out, Bool.and_false]), rfl⟩
    · have e1 : (fc == 0) = false := by simpa using q1
      have HQ1 := Lib.hid q1
      clear q1
      go_wp2_with fail
      go_meet
      exact ⟨false, rfl, Lib.hid (by rw [decide_eq_false HQ1.out]; rfl), rfl⟩
  obtain ⟨bb, rfl, hbb, rfl⟩ := hcut
  clear k0
  have HFZ : Hid (fc = 0 → faultR L = (0, 0) ∧ fi = 0) := Lib.hid (fun e => by
    have hz : faultR L = (0, 0) := by
      by_cases q : faultR L = (0, 0)
      · exact q
      · exact absurd (by rw [HF.out]; exact e) (faultR_code q)
    exact ⟨hz, by have := HF.out; rw [hz] at this; cases this; rfl⟩)
  go_upto_if 16 with (fail)
  go_cut [] (fun wx => ∃ c i : Int, wx.heap[g5]? = some (.cells #[.int .i64 c, .int .i64 i] 27 (0, 0)) ∧ wx.heap[w.heap.size]? = some (.cells #[.int .i64 0, .int .i64 0] 27 (0, 0)) ∧ Ext w wx ∧ Hid ((c = 0 → m ≤ 200 ∧ faultR L = (0, 0) ∧ i = 0) ∧ (c ≠ 0 → (c, i) = R)))
  case first =>
    cases bb with
    | true =>
      have hh : fc = 0 ∧ 200 < m := by have := hbb.out; simpa using this
      have HQ : Hid (((9 : Int), (-2 : Int)) = R) := Lib.hid (by rw [HR.out, start_long (HFZ.out hh.1).1 (by rw [← HM.out]; exact hh.2)])
      have HD5 := Lib.hid (ext_heap ((Ext.refl wb).alloc (.cells #[.int .i64 9, .int .i64 (-2)] 27)) HB5.out)
      have HDB := Lib.hid (ext_heap ((Ext.refl wb).alloc (.cells #[.int .i64 9, .int .i64 (-2)] 27)) HBB.out)
      clear hh hbb
      go_wp2_with (first | (go_at_call 32; refine (At_c _ _ _).mono ?_; rintro e w' ⟨rfl, rfl⟩) | refine wpList_store_row rfl 27 _ _ rfl g5 #[.int .i64 9, .int .i64 (-2)] rfl rfl 27 _ HD5.out sizeF rfl (by kernel_rfl) ?_)
      go_meet
      exact ⟨9, -2, setRow_heap _ _ _ _ _ _ HD5.out, (setRow_other _ _ _ _ (by omega)).trans HDB.out, (HXB.out.alloc _).setRow (by omega) _, Lib.hid ⟨fun h => by omega, fun _ => HQ.out⟩⟩
    | false =>
      have HQ : Hid ((fc = 0 → m ≤ 200 ∧ faultR L = (0, 0) ∧ fi = 0) ∧ (fc ≠ 0 → (fc, fi) = R)) := Lib.hid (by
        refine ⟨fun e => ?_, fun e => ?_⟩
        · have := hbb.out
          refine ⟨?_, HFZ.out e⟩
          rw [decide_eq_true e] at this
          simpa using this
        · rw [HR.out, start_bad (by rw [HF.out]; intro q; cases q; exact e rfl), HF.out])
      clear hbb
      go_wp2_with fail
      go_meet
      exact ⟨fc, fi, HB5.out, HBB.out, HXB.out, HQ⟩
  obtain ⟨c, i, hb5, hbb, hx, hq⟩ := hcut
  obtain ⟨wd, rfl⟩ : ∃ wd : World, wd = wc := ⟨_, rfl⟩
  have HI := Lib.hid (show (wd.heap[g5]? = some (.cells #[.int .i64 c, .int .i64 i] 27 (0, 0)) ∧ wd.heap[w.heap.size]? = some (.cells #[.int .i64 0, .int .i64 0] 27 (0, 0)) ∧ Ext w wd) from ⟨hb5, hbb, hx⟩)
  clear hb5 hbb hx
  go_wp2_with fail
  go_loopw [6] (fun t6 wx => ∃ k : Nat, ∃ c i : Int, k ≤ m ∧ t6 = .int .i64 k ∧ wx.heap[g5]? = some (.cells #[.int .i64 c, .int .i64 i] 27 (0, 0)) ∧ wx.heap[w.heap.size]? = some (.cells #[.int .i64 0, .int .i64 0] 27 (0, 0)) ∧ Ext w wx ∧ Hid ((c = 0 → m ≤ 200 ∧ faultR L = (0, 0) ∧ i = 0 ∧ goodTo l k = true) ∧ (c ≠ 0 → (c, i) = R))) (fun t6 _ => m - (intOf t6).toNat)
  case atStart => exact ⟨0, c, i, Nat.zero_le _, rfl, HI.out.1, HI.out.2.1, HI.out.2.2, Lib.hid ⟨fun e => by obtain ⟨a1, a2, a3⟩ := hq.out.1 e; exact ⟨a1, a2, a3, by simp [goodTo]⟩, hq.out.2⟩⟩
  case round =>
  obtain ⟨k, cc, ii, hk, rfl, hb5, hbb, hx, hqq⟩ := hrel
  have HX5 := Lib.hid hb5
  have HXR := Lib.hid hbb
  have HXX := Lib.hid hx
  have k0 : wr.cell? ⟨g5, 0, none⟩ = some (.int .i64 cc) := blk_cell hb5 0
  have k1 : wr.cell? ⟨g5, 1, none⟩ = some (.int .i64 ii) := blk_cell hb5 1
  have hltr := (Array.getElem?_eq_some_iff.1 hb5).1
  clear hb5 hbb hx
  by_cases hz : cc = 0
  · obtain ⟨q1, q2, q3, q4⟩ := hqq.out.1 hz
    subst hz
    subst q3
    have HQ1 := Lib.hid q1
    have HQ2 := Lib.hid q2
    have HQ4 := Lib.hid q4
    clear q2 q4 hqq
    by_cases hlt : k < m
    · obtain ⟨b, o, x, rfl, hxk, ha⟩ := (HSL.out wr HXX.out).at2 (show k < l.length by rw [← HM.out]; exact hlt)
      cases hs : inB x 0 3
      · have HE : Hid (((4 : Int), (-2 : Int)) = R) := Lib.hid (by rw [HR.out, start_sym HQ2.out (by rw [← HM.out]; have := HQ1.out; omega) (bad_at hxk.out hs)])
        have HD5 := Lib.hid (ext_heap ((Ext.refl wr).alloc (.cells #[.int .i64 4, .int .i64 (-2)] 27)) HX5.out)
        have HDB := Lib.hid (ext_heap ((Ext.refl wr).alloc (.cells #[.int .i64 4, .int .i64 (-2)] 27)) HXR.out)
        go_wp2_with (first | (go_at_call 33; refine (In_c _ _ _ _).mono ?_; rintro e w' ⟨rfl, rfl⟩; rw [hs]) | (go_at_call 32; refine (At_c _ _ _).mono ?_; rintro e w' ⟨rfl, rfl⟩) | refine wpList_store_row rfl 27 _ _ rfl g5 #[.int .i64 4, .int .i64 (-2)] rfl rfl 27 _ HD5.out sizeF rfl (by kernel_rfl) ?_)
        go_roundw
        case rel => exact ⟨k + 1, 4, -2, by omega, by go_num, setRow_heap _ _ _ _ _ _ HD5.out, (setRow_other _ _ _ _ (by omega)).trans HDB.out, (HXX.out.alloc _).setRow (by omega) _, Lib.hid ⟨fun h => by omega, fun _ => HE.out⟩⟩
        case measure => simp [intOf]; omega
      · have HG : Hid (goodTo l (k + 1) = true) := Lib.hid (by rw [goodTo_succ hxk.out, HQ4.out]; exact hs)
        go_wp2_with (go_at_call 33; refine (In_c _ _ _ _).mono ?_; rintro e w' ⟨rfl, rfl⟩; rw [hs])
        go_roundw
        case rel => exact ⟨k + 1, 0, 0, by omega, by go_num, HX5.out, HXR.out, HXX.out, Lib.hid ⟨fun _ => ⟨HQ1.out, HQ2.out, rfl, HG.out⟩, fun h => absurd rfl h⟩⟩
        case measure => simp [intOf]; omega
    · have hkm : k = m := by omega
      have HE : Hid (((0 : Int), (0 : Int)) = R) := Lib.hid (by
        have h4 := HQ4.out
        rw [hkm, HM.out, goodTo_all] at h4
        rw [HR.out, start_ok HQ2.out (by rw [← HM.out]; have := HQ1.out; omega) (by simpa using h4)])
      clear hkm
      go_wp2_with (refine wpList_store_row rfl 27 _ _ rfl w.heap.size #[.int .i64 0, .int .i64 0] rfl rfl 27 _ HXR.out sizeF rfl (by kernel_rfl) ?_)
      refine bodyPost_ret (results_cell_row rfl _ _ w.heap.size 27 #[.int .i64 0, .int .i64 0] (0, 0) _ rfl ?_ Tryz.underlying27 rfl sizeF) rfl (FRet.mk HE.out (HXX.out.setRow (Nat.le_refl _) _))
      exact setRow_heap _ _ _ _ _ _ HXR.out
  · have HE : Hid ((cc, ii) = R) := Lib.hid (hqq.out.2 hz)
    have hne : (cc == 0) = false := by simpa using hz
    clear hz hqq
    by_cases hlt : k < m
    · go_wp2_with (refine wpList_store_row rfl 27 _ _ rfl w.heap.size #[.int .i64 cc, .int .i64 ii] rfl rfl 27 _ HXR.out sizeF rfl (by kernel_rfl) ?_)
      refine bodyPost_ret (results_cell_row rfl _ _ w.heap.size 27 #[.int .i64 cc, .int .i64 ii] (0, 0) _ rfl ?_ Tryz.underlying27 rfl sizeF) rfl (FRet.mk HE.out (HXX.out.setRow (Nat.le_refl _) _))
      exact setRow_heap _ _ _ _ _ _ HXR.out
    · go_wp2_with (refine wpList_store_row rfl 27 _ _ rfl w.heap.size #[.int .i64 cc, .int .i64 ii] rfl rfl 27 _ HXR.out sizeF rfl (by kernel_rfl) ?_)
      refine bodyPost_ret (results_cell_row rfl _ _ w.heap.size 27 #[.int .i64 cc, .int .i64 ii] (0, 0) _ rfl ?_ Tryz.underlying27 rfl sizeF) rfl (FRet.mk HE.out (HXX.out.setRow (Nat.le_refl _) _))
      exact setRow_heap _ _ _ _ _ _ HXR.out
theorem startTs_wf {L : List Rule} {l : List Int} (h1 : ∀ r ∈ L, RuleWf r) (h2 : ∀ x ∈ l, I64 x) : TsWf { ts0 with rules := L, cells := tapeOf l } := by
  refine ⟨h1, fun x hx => ?_, ts0_wf.at_, ts0_wf.state, ts0_wf.stop⟩
  unfold tapeOf at hx
  simp only at hx
  split at hx
  · rw [List.mem_singleton.1 hx]; exact ⟨by decide, by decide⟩
  · exact h2 x hx
end Go.Proofs.YtbaahbpianingaaGreatDoor
