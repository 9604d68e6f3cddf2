import Derived.Test.YtbaahbpianingaaDoorValidD
import Derived.Laws.ResultCell
import Derived.Deep.DeepCutAuto
namespace Go.Proofs.YtbaahbpianingaaDoor
open Go Go.Proofs Go.RowKit
open Acc (Dk red five)
set_option maxHeartbeats 3200000
set_option maxRecDepth 100000
def dk0 : Dk := ⟨List.replicate 100 0, 0, 0, 0, 0, false, [], [], 0⟩
def zeroDk : Array Value := (Array.replicate 104 (.int .i64 0)) ++ #[.bool false, .slice none 0 0, .slice none 0 0, .int .i64 0]
theorem byt_nil : Byt [] := fun x hx => by simp at hx
theorem dk0_wf : DkWf dk0 := ⟨by simp [dk0], fun x hx => by simp [dk0] at hx; subst hx; exact ⟨by decide, by decide⟩, ⟨by decide, by decide⟩, ⟨by decide, by decide⟩, ⟨by decide, by decide⟩, ⟨by decide, by decide⟩, byt_nil, byt_nil, ⟨by decide, by decide⟩⟩
theorem slAt_nil (w : World) (k : IntKind) : SlAt w k (some (.slice none 0 0)) [] := ⟨none, 0, rfl, Nat.le_refl _, by simp [maxLen], fun _ => rfl, SlC.nil _ _⟩
theorem zero_is (w : World) : DkIs w zeroDk dk0 := by
  refine ⟨by simp [zeroDk], ?_, rfl, rfl, rfl, rfl, rfl, slAt_nil w _, slAt_nil w _, rfl, dk0_wf⟩
  intro i hi
  have hm : dk0.words[i]?.getD 0 = 0 := by
    show (List.replicate 100 (0 : Int))[i]?.getD 0 = 0
    rw [List.getElem?_replicate, if_pos hi]; rfl
  rw [hm, zeroDk, Array.getElem?_append_left (by simp; omega), Array.getElem?_replicate, if_pos (by omega)]
theorem foldl_sets : ∀ (l : List Value) (p : Nat) (acc : Array Value), p + l.length ≤ acc.size →
    ((l.zipIdx p).foldl (fun cs (x : Value × Nat) => cs.setIfInBounds (0 + x.2) x.1) acc).toList = acc.toList.take p ++ l ++ acc.toList.drop (p + l.length)
  | [], p, acc, h => by simp
  | v :: r, p, acc, h => by
    rw [List.zipIdx_cons, List.foldl_cons, foldl_sets r (p + 1) _ (by simp at h ⊢; omega)]
    simp only [List.length_cons] at h
    rw [Nat.zero_add, Array.toList_setIfInBounds]
    have hp : p < acc.toList.length := by rw [Array.length_toList]; omega
    rw [List.take_set, List.drop_set_of_lt (by omega), List.take_succ_eq_append_getElem hp]
    show (List.take p acc.toList ++ [acc.toList[p]]).set p v ++ r ++ List.drop (p + 1 + r.length) acc.toList = _
    rw [List.set_append_right _ _ (by simp; omega)]
    have : p - (acc.toList.take p).length = 0 := by simp; omega
    rw [this]
    simp only [List.set_cons_zero, List.append_assoc, List.cons_append, List.nil_append, List.length_cons]
    rw [Nat.add_assoc, Nat.add_comm 1 r.length]
theorem foldl_sets_all (cs z : Array Value) (h : z.size = cs.size) : cs.zipIdx.foldl (fun acc (x : Value × Nat) => acc.setIfInBounds (0 + x.2) x.1) z = cs := by
  apply Array.toList_inj.1
  rw [← Array.foldl_toList, Array.toList_zipIdx, foldl_sets cs.toList 0 z (by simp [h])]
  simp [h]
theorem run_build_machine (cs : Array Value) (h : cs.size = 108) (w : World) : (Instr.build 75 #[(0, .agg cs)]).run Tryd.prog w = .ok (.agg cs) w := by
  have hz : ∃ z, (zeroValue 75).run Tryd.prog w = .ok (.agg z) w ∧ z.size = 108 := ⟨zeroDk, by kernel_rfl, by decide⟩
  obtain ⟨z, hz, hzs⟩ := hz
  have hs : (sizeOf 25).run Tryd.prog w = .ok 108 w := by kernel_rfl
  simp only [Instr.build, Sem.run_bind, hz, Result.andThen_ok, run_underlying Tryd.underlying75]
  simp [Value.cells, hs, Instr.fill, h, hzs]
  have := foldl_sets_all cs z (by omega)
  simp only [Nat.zero_add] at this
  rw [show (108 : Nat) = cs.zipIdx.size from by simp [h]]
  exact this
def runG (s : Dk) (n : Int) : Dk × Int × (Int × Int) :=
  if faultD s = (0, 0) then (if 0 ≤ n ∧ n ≤ 60000 then ((Acc.runF n.toNat s).1, ((Acc.runF n.toNat s).2 : Int), (0, 0)) else (dk0, 0, (4, -2)))
  else (dk0, 0, faultD s)
/-- The state is read from these cells, and from blocks from B on, whatever the other blocks hold. -/
def DkFr (B : Nat) (w : World) (cs : Array Value) (s : Dk) : Prop := ∀ F : World, (∀ g, B ≤ g → g < w.heap.size → F.heap[g]? = w.heap[g]?) → DkIs F cs s
theorem DkFr.st {B : Nat} {w : World} {cs : Array Value} {s : Dk} (h : DkFr B w cs s) : DkIs w cs s := h w fun _ _ _ => rfl
def RunRet (w : World) (r : Dk × Int × (Int × Int)) (e : Ending) (w' : World) : Prop :=
  ∃ cs', e = .returned (.tuple #[.agg cs', .int .i64 r.2.1, fAgg r.2.2]) ∧ DkFr w.heap.size w' cs' r.1 ∧ Ext w w'
theorem results_run {P : Program} {fn : Func} {p u q : Tmp} {tp tq : TypeId} (h : fn.results = #[.cell p tp, .tmp u, .cell q tq]) (tmps : Array Value) (w : World) (g g' : Nat) (t t' : TypeId) (cs cs' : Array Value) (fr fr' : Nat × Nat) (d d' : TypeDesc)
    (hp : tmps.getD p undef = .pointer (some ⟨g, 0, none⟩)) (hg : w.heap[g]? = some (.cells cs t fr)) (hu : P.underlying tp = some d) (hd : (match d with | .struct _ | .array _ _ => true | _ => false) = true) (hi : (P.info? tp).map (·.size) = some cs.size)
    (hq : tmps.getD q undef = .pointer (some ⟨g', 0, none⟩)) (hg' : w.heap[g']? = some (.cells cs' t' fr')) (hu' : P.underlying tq = some d') (hd' : (match d' with | .struct _ | .array _ _ => true | _ => false) = true) (hi' : (P.info? tq).map (·.size) = some cs'.size) :
    (results fn tmps).run P w = .ok (.tuple #[.agg cs, tmps.getD u undef, .agg cs']) w := by
  have hp' : tmps[p]?.getD undef = .pointer (some ⟨g, 0, none⟩) := by simpa using hp
  have hq' : tmps[q]?.getD undef = .pointer (some ⟨g', 0, none⟩) := by simpa using hq
  simp [results, h, hp', hq', asAddr, run_loadVar_row w g t tp cs fr d hg hu hd hi, run_loadVar_row w g' t' tq cs' fr' d' hg' hu' hd' hi']
theorem sizeS : (Tryd.prog.info? 25).map (·.size) = some 108 := by kernel_rfl
theorem sizeF : (Tryd.prog.info? 28).map (·.size) = some 2 := by kernel_rfl
theorem sizeM : (Tryd.prog.info? 75).map (·.size) = some 108 := by kernel_rfl
theorem ext_heap {w w' : World} (h : Ext w w') {g : Nat} {o : Obj} (hg : w.heap[g]? = some o) : w'.heap[g]? = some o := by
  rw [h.block g (Array.getElem?_eq_some_iff.1 hg).1]; exact hg
theorem wpList_allocS {w : World} {ops : Array Oper} {rest : List Oper} {o : Oper} {a : Act} {Q : Exit → Act → World → Prop} (hgd : o.guard = none) (ho : o.op = .alloc 25)
    (h : wpList Tryd.prog ops Q rest (a.put o.dst (.pointer (some ⟨w.heap.size, 0, none⟩))) (w.alloc (.cells zeroDk 25))) : wpList Tryd.prog ops Q (o :: rest) a w := by
  refine wpList_plain hgd fun K hK => ?_
  have hr : (Instr.alloc 25 true (.tuple #[])).run Tryd.prog w = .ok (.pointer (some ⟨w.heap.size, 0, none⟩)) (w.alloc (.cells zeroDk 25)) := by kernel_rfl
  unfold Oper.wp execOp
  simp only [ho, Sem.run_bind, hr, Sem.run_pure, Result.andThen_ok]
  exact hK _ _ h
theorem wpList_buildS {w : World} {ops : Array Oper} {rest : List Oper} {o : Oper} {a : Act} {Q : Exit → Act → World → Prop} (hgd : o.guard = none) (ho : o.op = .build 25 #[])
    (h : wpList Tryd.prog ops Q rest (a.put o.dst (.agg zeroDk)) w) : wpList Tryd.prog ops Q (o :: rest) a w := by
  refine wpList_plain hgd fun K hK => ?_
  have hr : (Instr.build 25 #[]).run Tryd.prog w = .ok (.agg zeroDk) w := by kernel_rfl
  unfold Oper.wp execOp
  simp only [ho, List.map_toArray, List.map_nil, Sem.run_bind, hr, Sem.run_pure, Result.andThen_ok]
  exact hK _ _ h
theorem blk_cell {w : World} {g : Nat} {cs : Array Value} {t : TypeId} (h : w.heap[g]? = some (.cells cs t (0, 0))) (i : Nat) : w.cell? ⟨g, i, none⟩ = cs[i]? := cell_of_row w g i cs t (0, 0) h
theorem blk_frozen {w : World} {g : Nat} {cs : Array Value} {t : TypeId} (h : w.heap[g]? = some (.cells cs t (0, 0))) (i : Nat) : w.frozen? ⟨g, i, none⟩ = false := by simp [World.frozen?, h]
theorem zero_one : zeroDk.all (·.oneCell') = true := by kernel_rfl
/-- The three blocks that Run makes first. -/
structure Begun (w wx : World) (cs : Array Value) : Prop where
  g0 : wx.heap[w.heap.size]? = some (.cells cs 25 (0, 0))
  g1 : wx.heap[w.heap.size + 1]? = some (.cells zeroDk 25 (0, 0))
  g2 : wx.heap[w.heap.size + 2]? = some (.cells #[.int .i64 0, .int .i64 0] 28 (0, 0))
  x : Ext w wx
theorem begun_mk (w : World) (cs : Array Value) : Begun w (((w.alloc (.cells cs 25)).alloc (.cells zeroDk 25)).alloc (.cells #[.int .i64 0, .int .i64 0] 28)) cs := by
  refine ⟨?_, ?_, ?_, (((Ext.refl w).alloc _).alloc _).alloc _⟩
  · rw [Below.heap_alloc _ _ _ (by simp; omega), Below.heap_alloc _ _ _ (by simp)]; exact heap_alloc_new w _
  · rw [Below.heap_alloc _ _ _ (by simp)]; have := heap_alloc_new (w.alloc (.cells cs 25)) (.cells zeroDk 25); simpa using this
  · have := heap_alloc_new ((w.alloc (.cells cs 25)).alloc (.cells zeroDk 25)) (.cells #[.int .i64 0, .int .i64 0] 28)
    simpa using this
theorem Begun.ext {w wx w1 : World} {cs : Array Value} (h : Begun w wx cs) (e : Ext wx w1) : Begun w w1 cs := ⟨ext_heap e h.g0, ext_heap e h.g1, ext_heap e h.g2, h.x.trans e⟩
theorem Begun.lt {w wx : World} {cs : Array Value} (h : Begun w wx cs) : w.heap.size + 2 < wx.heap.size := (Array.getElem?_eq_some_iff.1 h.g2).1
theorem wpList_build_machine {w : World} {ops : Array Oper} {rest : List Oper} {o : Oper} {a : Act} {Q : Exit → Act → World → Prop} (hgd : o.guard = none) (x : Operand) (ho : o.op = .build 75 #[(0, x)]) (cs : Array Value) (hsz : cs.size = 108) (hx : a.eval x = .agg cs)
    (h : wpList Tryd.prog ops Q rest (a.put o.dst (.agg cs)) w) : wpList Tryd.prog ops Q (o :: rest) a w := by
  refine wpList_plain hgd fun K hK => ?_
  unfold Oper.wp execOp
  simp only [ho, List.map_toArray, List.map_cons, List.map_nil, hx, Sem.run_bind, run_build_machine cs hsz w, Sem.run_pure, Result.andThen_ok]
  exact hK _ _ h
end Go.Proofs.YtbaahbpianingaaDoor
