import Derived.Test.YtpooedfchjpndaaDoorStream
import Derived.Test.YtpooedfchjpndaaDoorSFault
namespace Go.Proofs.YtpooedfchjpndaaDoor
open Go Go.Proofs Go.RowKit
set_option maxHeartbeats 3200000
set_option maxRecDepth 100000
def flt (c i : Int) : Array Value := #[.int .i64 c, .int .i64 i]
/-- What is known while Start is compared. -/
structure L3 (w wx : World) (cs : Array Value) (g9 : Nat) (c9 : Array Value) (ss : St) (fc fi : Int) (g11 : Nat) (vc vi : Int) : Prop where
  v4 : wx.heap[w.heap.size]? = some (.cells cs 28 (0, 0))
  x : Ext w wx
  v9 : wx.heap[g9]? = some (.cells c9 28 (0, 0))
  f9 : wx.heap[g9 + 1]? = some (.cells #[.int .i64 fc, .int .i64 fi] 30 (0, 0))
  ap : Apart wx g9 c9 ss
  v11 : wx.heap[g11]? = some (.cells #[.int .i64 vc, .int .i64 vi] 30 (0, 0))
  lt4 : w.heap.size < g9
  lt9 : g9 + 1 < g11
section
variable {w wx w2 : World} {cs c9 : Array Value} {g9 g11 : Nat} {ss : St} {fc fi vc vi : Int}
theorem L3.lt (h : L3 w wx cs g9 c9 ss fc fi g11 vc vi) : g11 < wx.heap.size := (Array.getElem?_eq_some_iff.1 h.v11).1
theorem L3.ext (h : L3 w wx cs g9 c9 ss fc fi g11 vc vi) (x : Ext wx w2) : L3 w w2 cs g9 c9 ss fc fi g11 vc vi := by
  have hl := h.lt
  have h9 := h.lt9
  exact ⟨ext_heap x h.v4, h.x.trans x, ext_heap x h.v9, ext_heap x h.f9, fun F hF => h.ap F fun k hk => (hF k hk).trans (x.block k (by omega)), ext_heap x h.v11, h.lt4, h.lt9⟩
theorem L3.set11 (h : L3 w wx cs g9 c9 ss fc fi g11 vc vi) (a b : Int) : L3 w (wx.setRow g11 #[.int .i64 a, .int .i64 b]) cs g9 c9 ss fc fi g11 a b := by
  have h9 := h.lt9
  have h4 := h.lt4
  exact ⟨(setRow_other _ _ _ _ (by omega)).trans h.v4, h.x.setRow (by omega) _, (setRow_other _ _ _ _ (by omega)).trans h.v9, (setRow_other _ _ _ _ (by omega)).trans h.f9, fun F hF => h.ap F fun k hk => (hF k hk).trans (setRow_other _ _ _ _ (by omega)), setRow_heap _ _ _ _ _ _ h.v11, h.lt4, h.lt9⟩
theorem L3.setFar (h : L3 w wx cs g9 c9 ss fc fi g11 vc vi) {g : Nat} (hg : g11 < g) (c : Array Value) : L3 w (wx.setRow g c) cs g9 c9 ss fc fi g11 vc vi := by
  have h9 := h.lt9
  have h4 := h.lt4
  exact ⟨(setRow_other _ _ _ _ (by omega)).trans h.v4, h.x.setRow (by omega) _, (setRow_other _ _ _ _ (by omega)).trans h.v9, (setRow_other _ _ _ _ (by omega)).trans h.f9, fun F hF => h.ap F fun k hk => (hF k hk).trans (setRow_other _ _ _ _ (by omega)), (setRow_other _ _ _ _ (by omega)).trans h.v11, h.lt4, h.lt9⟩
theorem L3.is (h : L3 w wx cs g9 c9 ss fc fi g11 vc vi) : StIs wx c9 ss := h.ap wx fun _ _ => rfl
end
theorem runG_one (s : St) : (runG s 1).2.2 = faultOf s := by
  unfold runG
  by_cases h : faultOf s = (0, 0)
  · rw [if_pos h, if_pos (by decide), h]
  · rw [if_neg h]
theorem wpList_build28g {w : World} {ops : Array Oper} {rest : List Oper} {o : Oper} {a : Act} {Q : Exit → Act → World → Prop} (hw : Region.wanted o (yielded ops a.tmps) = true) (ho : o.op = .build 28 #[])
    (h : wpList Tryd.prog ops Q rest (a.put o.dst (.agg zeroSt)) w) : wpList Tryd.prog ops Q (o :: rest) a w := by
  refine wpList_step fun K hK => ?_
  rw [if_pos hw]
  have hr : (Instr.build 28 #[]).run Tryd.prog w = .ok (.agg zeroSt) w := by kernel_rfl
  unfold Oper.wp execOp
  simp only [ho, List.map_toArray, List.map_nil, Sem.run_bind, hr, Sem.run_pure, Result.andThen_ok]
  exact hK _ _ h
end Go.Proofs.YtpooedfchjpndaaDoor
