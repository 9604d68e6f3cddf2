import Derived.Test.YtpooedfchjpndaaDoorStep2
import Derived.Test.YtpooedfchjpndaaDoorRunL
import Derived.Test.YtpooedfchjpndaaDoorSameL
namespace Go.Proofs.YtpooedfchjpndaaDoor
open Go Go.Proofs Go.RowKit
set_option maxHeartbeats 3200000
set_option maxRecDepth 100000
def runG (s : St) (n : Int) : St × Int × (Int × Int) :=
  if faultOf s = (0, 0) then (if 0 ≤ n ∧ n ≤ 60000 then ((runF n.toNat s).1, ((runF n.toNat s).2 : Int), (0, 0)) else (st0, 0, (4, -2)))
  else (st0, 0, faultOf s)
/-- The state is read from these cells, and from blocks from B on, whatever the other blocks hold. -/
def StFr (B : Nat) (w : World) (cs : Array Value) (s : St) : Prop := ∀ F : World, (∀ g, B ≤ g → g < w.heap.size → F.heap[g]? = w.heap[g]?) → StIs F cs s
theorem StFr.st {B : Nat} {w : World} {cs : Array Value} {s : St} (h : StFr B w cs s) : StIs w cs s := h w fun _ _ _ => rfl
def RunRet (w : World) (r : St × Int × (Int × Int)) (e : Ending) (w' : World) : Prop :=
  ∃ cs', e = .returned (.tuple #[.agg cs', .int .i64 r.2.1, fAgg r.2.2]) ∧ StFr w.heap.size w' cs' r.1 ∧ Ext w w'
theorem results_run {P : Program} {fn : Func} {p u q : Tmp} {tp tq : TypeId} (h : fn.results = #[.cell p tp, .tmp u, .cell q tq]) (tmps : Array Value) (w : World) (g g' : Nat) (t t' : TypeId) (cs cs' : Array Value) (fr fr' : Nat × Nat) (d d' : TypeDesc)
    (hp : tmps.getD p undef = .pointer (some ⟨g, 0, none⟩)) (hg : w.heap[g]? = some (.cells cs t fr)) (hu : P.underlying tp = some d) (hd : (match d with | .struct _ | .array _ _ => true | _ => false) = true) (hi : (P.info? tp).map (·.size) = some cs.size)
    (hq : tmps.getD q undef = .pointer (some ⟨g', 0, none⟩)) (hg' : w.heap[g']? = some (.cells cs' t' fr')) (hu' : P.underlying tq = some d') (hd' : (match d' with | .struct _ | .array _ _ => true | _ => false) = true) (hi' : (P.info? tq).map (·.size) = some cs'.size) :
    (results fn tmps).run P w = .ok (.tuple #[.agg cs, tmps.getD u undef, .agg cs']) w := by
  have hp' : tmps[p]?.getD undef = .pointer (some ⟨g, 0, none⟩) := by simpa using hp
  have hq' : tmps[q]?.getD undef = .pointer (some ⟨g', 0, none⟩) := by simpa using hq
  simp [results, h, hp', hq', asAddr, run_loadVar_row w g t tp cs fr d hg hu hd hi, run_loadVar_row w g' t' tq cs' fr' d' hg' hu' hd' hi']
theorem size28 : (Tryd.prog.info? 28).map (·.size) = some 39 := by kernel_rfl
theorem size30 : (Tryd.prog.info? 30).map (·.size) = some 2 := by kernel_rfl
theorem size53 : (Tryd.prog.info? 53).map (·.size) = some 39 := by kernel_rfl
theorem ext_heap {w w' : World} (h : Ext w w') {g : Nat} {o : Obj} (hg : w.heap[g]? = some o) : w'.heap[g]? = some o := by
  rw [h.block g (Array.getElem?_eq_some_iff.1 hg).1]; exact hg
theorem zeroSt_lit : zeroSt = #[.slice none 0 0, .int .i64 0, .slice none 0 0, .slice none 0 0, .int .u16 0, .int .u16 0, .int .u16 0, .int .u16 0, .int .u16 0, .int .u16 0, .int .u16 0, .int .u16 0, .int .u16 0, .int .u16 0, .int .u16 0, .int .u16 0, .int .u16 0, .int .u16 0, .int .u16 0, .int .u16 0, .int .u16 0, .int .u16 0, .int .u16 0, .int .u16 0, .int .u16 0, .int .u16 0, .int .u16 0, .int .u16 0, .int .u16 0, .int .u16 0, .int .u16 0, .int .u16 0, .int .u16 0, .int .u16 0, .int .u16 0, .int .u16 0, .slice none 0 0, .slice none 0 0, .int .i64 0] := by rfl
theorem blk_cell {w : World} {g : Nat} {cs : Array Value} {t : TypeId} (h : w.heap[g]? = some (.cells cs t (0, 0))) (i : Nat) : w.cell? ⟨g, i, none⟩ = cs[i]? := cell_of_row w g i cs t (0, 0) h
theorem blk_frozen {w : World} {g : Nat} {cs : Array Value} {t : TypeId} (h : w.heap[g]? = some (.cells cs t (0, 0))) (i : Nat) : w.frozen? ⟨g, i, none⟩ = false := by simp [World.frozen?, h]
theorem zero_one : zeroSt.all (·.oneCell') = true := by kernel_rfl
/-- The three blocks that Run makes first. -/
structure Begun (w wx : World) (cs : Array Value) : Prop where
  g0 : wx.heap[w.heap.size]? = some (.cells cs 28 (0, 0))
  g1 : wx.heap[w.heap.size + 1]? = some (.cells zeroSt 28 (0, 0))
  g2 : wx.heap[w.heap.size + 2]? = some (.cells #[.int .i64 0, .int .i64 0] 30 (0, 0))
  x : Ext w wx
theorem begun_mk (w : World) (cs : Array Value) : Begun w (((w.alloc (.cells cs 28)).alloc (.cells zeroSt 28)).alloc (.cells #[.int .i64 0, .int .i64 0] 30)) cs := by
  refine ⟨?_, ?_, ?_, (((Ext.refl w).alloc _).alloc _).alloc _⟩
  · rw [Below.heap_alloc _ _ _ (by simp; omega), Below.heap_alloc _ _ _ (by simp)]; exact heap_alloc_new w _
  · rw [Below.heap_alloc _ _ _ (by simp)]; have := heap_alloc_new (w.alloc (.cells cs 28)) (.cells zeroSt 28); simpa using this
  · have := heap_alloc_new ((w.alloc (.cells cs 28)).alloc (.cells zeroSt 28)) (.cells #[.int .i64 0, .int .i64 0] 30)
    simpa using this
theorem Begun.ext {w wx w1 : World} {cs : Array Value} (h : Begun w wx cs) (e : Ext wx w1) : Begun w w1 cs := ⟨ext_heap e h.g0, ext_heap e h.g1, ext_heap e h.g2, h.x.trans e⟩
theorem Begun.lt {w wx : World} {cs : Array Value} (h : Begun w wx cs) : w.heap.size + 2 < wx.heap.size := (Array.getElem?_eq_some_iff.1 h.g2).1
theorem wpList_build_machine {w : World} {ops : Array Oper} {rest : List Oper} {o : Oper} {a : Act} {Q : Exit → Act → World → Prop} (hgd : o.guard = none) (x : Operand) (ho : o.op = .build 53 #[(0, x)]) (cs : Array Value) (hsz : cs.size = 39) (hx : a.eval x = .agg cs)
    (h : wpList Tryd.prog ops Q rest (a.put o.dst (.agg cs)) w) : wpList Tryd.prog ops Q (o :: rest) a w := by
  refine wpList_plain hgd fun K hK => ?_
  unfold Oper.wp execOp
  simp only [ho, List.map_toArray, List.map_cons, List.map_nil, hx, Sem.run_bind, run_build_machine cs hsz w, Sem.run_pure, Result.andThen_ok]
  exact hK _ _ h
end Go.Proofs.YtpooedfchjpndaaDoor
