import Derived.Test.YtbaahbpianingaaDoorTqG
namespace Go.Proofs.YtbaahbpianingaaDoor
open Go Go.Proofs Go.RowKit
open Tape (Rule Ts)
set_option maxHeartbeats 3200000
set_option maxRecDepth 100000
/-- These cells read as s in every world that keeps what is not bad. -/
def TsAv (bad : Nat → Prop) (w : World) (cs : Array Value) (s : Ts) : Prop := ∀ F : World, (∀ g, ¬ bad g → g < w.heap.size → F.heap[g]? = w.heap[g]?) → TsIs F cs s
theorem TsAv.st {bad : Nat → Prop} {w : World} {cs : Array Value} {s : Ts} (h : TsAv bad w cs s) : TsIs w cs s := h w fun _ _ _ => rfl
/-- What the specification's step returns. -/
def TpRet (bad : Nat → Prop) (w : World) (s : Ts) (e : Ending) (w' : World) : Prop := ∃ cs', e = .returned (.agg cs') ∧ TsAv bad w' cs' s ∧ Ext w w'
def badT2 (bad : Nat → Prop) (B g : Nat) : Prop := bad g ∨ g = B ∨ g = B + 1
/-- The two variables of a step, ahead of any store. -/
structure TBox (w wx : World) (cs : Array Value) : Prop where
  b1 : wx.heap[w.heap.size]? = some (.cells cs 54 (0, 0))
  b2 : wx.heap[w.heap.size + 1]? = some (.cells zeroTs 54 (0, 0))
  x : Ext w wx
/-- The same behind a store: the state is s. -/
structure TFin (bad : Nat → Prop) (w wx : World) (s : Ts) (cs : Array Value) : Prop where
  b1 : wx.heap[w.heap.size]? = some (.cells cs 54 (0, 0))
  b2 : wx.heap[w.heap.size + 1]? = some (.cells zeroTs 54 (0, 0))
  st : TsAv (badT2 bad w.heap.size) wx cs s
  x : Ext w wx
/-- A row is being filled. -/
structure TFl (w wx : World) (cs : Array Value) (l : List Int) (v : Value) : Prop where
  t : TBox w wx cs
  own : wx.ownsRow (w.heap.size + 2) 3 1 v l.length (l.map (Value.int .i64))
section
variable {bad : Nat → Prop} {w wx w2 : World} {s s' : Ts} {cs : Array Value} {l : List Int} {v : Value}
theorem TBox.lt (h : TBox w wx cs) : w.heap.size + 1 < wx.heap.size := (Array.getElem?_eq_some_iff.1 h.b2).1
theorem TBox.cell (h : TBox w wx cs) (i : Nat) : wx.cell? ⟨w.heap.size, i, none⟩ = cs[i]? := blk_cell h.b1 i
theorem TBox.frozen (h : TBox w wx cs) (i : Nat) : wx.frozen? ⟨w.heap.size, i, none⟩ = false := blk_frozen h.b1 i
theorem TBox.ext (h : TBox w wx cs) (x : Ext wx w2) : TBox w w2 cs := ⟨ext_heap x h.b1, ext_heap x h.b2, h.x.trans x⟩
theorem TBox.mk0 (w : World) (cs : Array Value) : TBox w ((w.alloc (.cells cs 54)).alloc (.cells zeroTs 54)) cs :=
  ⟨heap_alloc2_old w _ _, heap_alloc2_new w _ _, ((Ext.refl w).alloc _).alloc _⟩
theorem TFin.lt (h : TFin bad w wx s cs) : w.heap.size + 1 < wx.heap.size := (Array.getElem?_eq_some_iff.1 h.b2).1
theorem TFin.is (h : TFin bad w wx s cs) : TsIs wx cs s := h.st.st
theorem TFin.cell (h : TFin bad w wx s cs) (i : Nat) : wx.cell? ⟨w.heap.size, i, none⟩ = cs[i]? := blk_cell h.b1 i
theorem TFin.frozen (h : TFin bad w wx s cs) (i : Nat) : wx.frozen? ⟨w.heap.size, i, none⟩ = false := blk_frozen h.b1 i
theorem TBox.fin (h : TBox w wx cs) (ha : TsAv bad w cs s) : TFin bad w wx s cs := by
  refine ⟨h.b1, h.b2, fun F hF => ha F fun g hg hl => ?_, h.x⟩
  rw [hF g (fun q => by rcases q with q | q | q; exact hg q; omega; omega) (Nat.lt_of_lt_of_le hl h.x.size)]
  exact h.x.block g hl
theorem TFin.set (h : TFin bad w wx s cs) {i : Nat} {u : Value} (hf : ∀ F, TsIs F cs s → TsIs F (cs.setIfInBounds i u) s') : TFin bad w (wx.setCell ⟨w.heap.size, i, none⟩ u) s' (cs.setIfInBounds i u) := by
  refine ⟨heap_set_self h.b1 i u, ?_, fun F hF => hf F (h.st F fun g hg hl => ?_), h.x.setCell (p := ⟨w.heap.size, i, none⟩) (Nat.le_refl _) u⟩
  · rw [Below.heap_setCell _ _ _ _ (by show w.heap.size + 1 ≠ w.heap.size; omega)]; exact h.b2
  · rw [hF g hg (by rw [World.size_setCell]; exact hl)]
    exact Below.heap_setCell _ _ _ _ (fun e => hg (.inr (.inl e)))
theorem TFin.fin (h : TFin bad w wx s cs) : TpRet bad w s (.returned (.agg cs)) (wx.setRow (w.heap.size + 1) cs) := by
  refine ⟨cs, rfl, fun F hF => h.st F fun g hg hl => ?_, h.x.setRow (by omega) _⟩
  rw [hF g (fun q => hg (.inl q)) (by simpa [World.setRow] using hl)]
  exact setRow_other _ _ _ _ (fun e => hg (.inr (.inr e)))
theorem tsIs_set (h : TsIs w cs s) (i : Nat) (u : Value) (s' : Ts) (er : RlAt w (if i = 0 then some u else cs[0]?) s'.rules) (ec : SlAt w .i64 (if i = 1 then some u else cs[1]?) s'.cells)
    (e2 : (if i = 2 then some u else some (.int .i64 s.at_)) = some (.int .i64 s'.at_)) (e3 : (if i = 3 then some u else some (.int .i64 s.state)) = some (.int .i64 s'.state)) (e4 : (if i = 4 then some u else some (.int .i64 s.stop)) = some (.int .i64 s'.stop))
    (hwf : TsWf s') : TsIs w (cs.setIfInBounds i u) s' := by
  have hsz := h.size
  refine ⟨by simpa using hsz, ?_, ?_, ?_, ?_, ?_, hwf⟩
  · rw [getD_set]
    by_cases q : i = 0
    · rw [if_pos q] at er ⊢; rw [if_pos (by omega)]; exact er
    · rw [if_neg q] at er ⊢; exact er
  · rw [getD_set]
    by_cases q : i = 1
    · rw [if_pos q] at ec ⊢; rw [if_pos (by omega)]; exact ec
    · rw [if_neg q] at ec ⊢; exact ec
  · rw [getD_set, ← e2, h.at_]; split
    · rw [if_pos (by omega)]
    · rfl
  · rw [getD_set, ← e3, h.state]; split
    · rw [if_pos (by omega)]
    · rfl
  · rw [getD_set, ← e4, h.stop]; split
    · rw [if_pos (by omega)]
    · rfl
theorem at_setT (h : TsIs w cs s) {n : Int} (hn : I64 n) : TsIs w (cs.setIfInBounds 2 (.int .i64 n)) { s with at_ := n } :=
  tsIs_set h 2 _ _ h.rules h.cells rfl rfl rfl { h.wf with at_ := hn }
theorem state_setT (h : TsIs w cs s) {n : Int} (hn : I64 n) : TsIs w (cs.setIfInBounds 3 (.int .i64 n)) { s with state := n } :=
  tsIs_set h 3 _ _ h.rules h.cells rfl rfl rfl { h.wf with state := hn }
theorem stop_setT (h : TsIs w cs s) {n : Int} (hn : I64 n) : TsIs w (cs.setIfInBounds 4 (.int .i64 n)) { s with stop := n } :=
  tsIs_set h 4 _ _ h.rules h.cells rfl rfl rfl { h.wf with stop := hn }
theorem TFl.fin (h : TFl w wx cs l v) (ha : TsAv bad w cs s) (hb : ∀ g, bad g → g < w.heap.size) (hl : ∀ x ∈ l, I64 x) :
    TFin bad w (wx.setCell ⟨w.heap.size, 1, none⟩ v) { s with cells := l } (cs.setIfInBounds 1 v) := by
  have h0 := h.t.fin ha
  refine ⟨heap_set_self h.t.b1 1 v, ?_, fun F hF => ?_, h.t.x.setCell (p := ⟨w.heap.size, 1, none⟩) (Nat.le_refl _) v⟩
  · rw [Below.heap_setCell _ _ _ _ (by show w.heap.size + 1 ≠ w.heap.size; omega)]; exact h.t.b2
  · have hF2 : ∀ g, ¬ badT2 bad w.heap.size g → g < wx.heap.size → F.heap[g]? = wx.heap[g]? := fun g hg hl => by
      rw [hF g hg (by rw [World.size_setCell]; exact hl)]
      exact Below.heap_setCell _ _ _ _ (fun e => hg (.inr (.inl e)))
    have hi := h0.st F hF2
    refine tsIs_set hi 1 _ _ hi.rules ?_ rfl rfl rfl { hi.wf with cells := hl }
    exact own_at h.own fun g hg => by
      have := own_lt h.own hg
      exact hF2 g (fun q => by rcases q with q | q | q; have := hb g q; omega; omega; omega) this.2
theorem grow_box {row : Option Nat} (h : TBox w wx cs) (hg : wx.grownBy w2 row) (hr : ∀ g, row = some g → w.heap.size + 2 ≤ g) : TBox w w2 cs := by
  have hlt := h.lt
  refine ⟨?_, ?_, ⟨hg.os.trans h.x.os, hg.tape.trans h.x.tape, hg.output.trans h.x.output, Nat.le_trans h.x.size hg.size, fun g hl => ?_⟩⟩
  · rw [hg.block _ (by omega) (fun e => by have := hr _ e.symm; omega)]; exact h.b1
  · rw [hg.block _ (by omega) (fun e => by have := hr _ e.symm; omega)]; exact h.b2
  · rw [hg.block _ (by omega) (fun e => by have := hr _ e.symm; omega)]; exact h.x.block g hl
theorem TFl.mk0 (h : TBox w wx cs) : TFl w wx cs [] (.slice none 0 0) := ⟨h, World.ownsRow_nil _ _ _ _⟩
theorem TFl.add {w3 : World} {v3 : Value} {i : Int} {o : Obj} (h : TFl w wx cs l v)
    (ho : w3.ownsRow (w.heap.size + 2) 3 1 v3 (l.length + 1) (l.map (Value.int .i64) ++ [.int .i64 i])) (hg : (wx.alloc o).grownBy w3 v.ownBlock) : TFl w w3 cs (l ++ [i]) v3 := by
  refine ⟨grow_box (h.t.ext ((Ext.refl wx).alloc o)) hg (fun g hq => (own_lt h.own hq).1), ?_⟩
  rw [List.length_append, List.map_append]
  exact ho
theorem TsIs.rls {A : Option Addr} {k c : Nat} (h : TsIs w cs s) (e : cs[0]? = some (.slice A k c)) : Rls w A s.rules := by
  obtain ⟨A', c', e', _, _, _, h5⟩ := h.rules
  rw [e] at e'
  cases e'
  exact h5
theorem TsIs.sl {A : Option Addr} {k c : Nat} (h : TsIs w cs s) (e : cs[1]? = some (.slice A k c)) : Sl w .i64 A s.cells := by
  obtain ⟨A', c', e', _, _, _, h5⟩ := h.cells
  rw [e] at e'
  cases e'
  exact h5
end
theorem idx_rule {s : Ts} {k : Nat} {r : Rule} (h : noneR s k) (hr : s.rules[k]? = some r) (hf : Tape.fits s r = true) : Tape.ruleOf s = some r := by
  have h1 := idxR_some h hr hf
  rcases idxR_rule (s := s) with ⟨h2, _⟩ | ⟨i, r', h2, h3, h4⟩
  · omega
  · have : i = k := by omega
    subst this
    rw [hr] at h3
    cases h3
    exact h4
theorem idx_norule {s : Ts} {k : Nat} (h : noneR s k) (h1 : s.rules.length ≤ k) : Tape.ruleOf s = none := by
  have h1 := idxR_none h h1
  rcases idxR_rule (s := s) with ⟨_, h2⟩ | ⟨i, r', h2, _, _⟩
  · exact h2
  · omega
theorem step_none {s : Ts} (h : Tape.ruleOf s = none) : Tape.stepF s = { s with stop := 2 } := by unfold Tape.stepF; rw [h]
theorem step_some {s : Ts} {r : Rule} (h : Tape.ruleOf s = some r) : Tape.stepF s = Tape.actF s r := by unfold Tape.stepF; rw [h]
theorem results_oneT {P : Program} {fn : Func} {p : Tmp} {tp : TypeId} (h : fn.results = #[.cell p tp]) (tmps : Array Value) (w : World) (g : Nat) (t : TypeId) (cs : Array Value) (fr : Nat × Nat) (d : TypeDesc)
    (hp : tmps.getD p undef = .pointer (some ⟨g, 0, none⟩)) (hg : w.heap[g]? = some (.cells cs t fr)) (hu : P.underlying tp = some d) (hd : (match d with | .struct _ | .array _ _ => true | _ => false) = true) (hi : (P.info? tp).map (·.size) = some cs.size) :
    (results fn tmps).run P w = .ok (.agg cs) w := results_cell_row h tmps w g t cs fr d hp hg hu hd hi
theorem results_ranT {P : Program} {fn : Func} {p u : Tmp} {tp : TypeId} (h : fn.results = #[.cell p tp, .tmp u]) (tmps : Array Value) (w : World) (g : Nat) (t : TypeId) (cs : Array Value) (fr : Nat × Nat) (d : TypeDesc)
    (hp : tmps.getD p undef = .pointer (some ⟨g, 0, none⟩)) (hg : w.heap[g]? = some (.cells cs t fr)) (hu : P.underlying tp = some d) (hd : (match d with | .struct _ | .array _ _ => true | _ => false) = true) (hi : (P.info? tp).map (·.size) = some cs.size) :
    (results fn tmps).run P w = .ok (.tuple #[.agg cs, tmps.getD u undef]) w := by
  have hp' : tmps[p]?.getD undef = .pointer (some ⟨g, 0, none⟩) := by simpa using hp
  simp [results, h, hp', asAddr, run_loadVar_row w g t tp cs fr d hg hu hd hi]
theorem wp_worldT {P : Program} {c : Code} {Q : Exit → Act → World → Prop} {a : Act} {W : World} (R : World → Prop) (h : R W) (k : ∀ wx, R wx → Code.wp P c Q a wx) : Code.wp P c Q a W := k W h
/-- What the tape is behind a step. -/
theorem set_get (l : List Int) (p : Nat) (x : Int) : ∀ k : Nat, k < l.length → (k = p → (l.set p x)[k]? = some x) ∧ (k ≠ p → (l.set p x)[k]? = some (l[k]?.getD 0)) := by
  intro k hk
  rw [List.getElem?_set]
  refine ⟨fun e => ?_, fun e => ?_⟩
  · rw [if_pos e.symm, if_pos (by omega)]
  · rw [if_neg (fun q => e q.symm), List.getElem?_eq_getElem hk]
    rfl
end Go.Proofs.YtbaahbpianingaaDoor
