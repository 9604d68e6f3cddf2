import Derived.Test.YtpooedfchjpndaaDoorSpecL
import Derived.Test.YtpooedfchjpndaaDoorStopped
import Derived.Test.YtpooedfchjpndaaDoorLeft
namespace Go.Proofs.YtpooedfchjpndaaDoor
open Go Go.Proofs Go.RowKit
set_option maxHeartbeats 6400000
set_option maxRecDepth 100000
theorem results_one {P : Program} {fn : Func} {p : Tmp} {tp : TypeId} (h : fn.results = #[.cell p tp]) (tmps : Array Value) (w : World) (g : Nat) (t : TypeId) (cs : Array Value) (fr : Nat × Nat) (d : TypeDesc)
    (hp : tmps.getD p undef = .pointer (some ⟨g, 0, none⟩)) (hg : w.heap[g]? = some (.cells cs t fr)) (hu : P.underlying tp = some d) (hd : (match d with | .struct _ | .array _ _ => true | _ => false) = true) (hi : (P.info? tp).map (·.size) = some cs.size) :
    (results fn tmps).run P w = .ok (.agg cs) w := results_cell_row h tmps w g t cs fr d hp hg hu hd hi
/-- The two blocks ahead of the step. -/
structure Two2 (w wx : World) (cs : Array Value) : Prop where
  b1 : wx.heap[w.heap.size]? = some (.cells cs 28 (0, 0))
  b2 : wx.heap[w.heap.size + 1]? = some (.cells zeroSt 28 (0, 0))
  x : Ext w wx
theorem Two2.ext {w wx w1 : World} {cs : Array Value} (h : Two2 w wx cs) (x : Ext wx w1) : Two2 w w1 cs := ⟨ext_heap x h.b1, ext_heap x h.b2, h.x.trans x⟩
theorem two2_mk (w : World) (cs : Array Value) : Two2 w ((w.alloc (.cells cs 28)).alloc (.cells zeroSt 28)) cs := ⟨heap_alloc2_old w _ _, heap_alloc2_new w _ _, ((Ext.refl w).alloc _).alloc _⟩
theorem stop_fin {bad : Nat → Prop} {w w1 : World} {cs : Array Value} {s : St} {n : Int} (h : StAv bad w cs s) (ht : Two2 w w1 cs) (hn : I64 n) :
    SpRet bad w { s with stop := n } (.returned (.agg (cs.setIfInBounds 38 (.int .i64 n)))) ((w1.setCell ⟨w.heap.size, 38, none⟩ (.int .i64 n)).setRow (w.heap.size + 1) (cs.setIfInBounds 38 (.int .i64 n))) := by
  refine ⟨_, rfl, fun F hF => ?_, (ht.x.setCell (p := ⟨w.heap.size, 38, none⟩) (Nat.le_refl _) _).setRow (by omega) _⟩
  refine stop_set (h F fun g hg hl => ?_) hn
  have := ht.x.size
  rw [hF g hg (by simp [World.setCell, World.setRow]; omega), setRow_other _ _ _ _ (by omega), set_other (by omega), ht.x.block g hl]
theorem stepR_stop (bad : Nat → Prop) (cs : Array Value) (s : St) (w : World) (h : StAv bad w cs s) (hok : OkSt s) (hz : stopOf s ≠ 0) : Calls Tryd.prog 26 #[.agg cs] w (SpRet bad w (stepF s)) := by
  have HH := Lib.hid h
  have HOK := Lib.hid hok
  have HS := Lib.hid h.st.size
  have hst : 0 ≤ stopOf s ∧ stopOf s ≤ 7 := by
    unfold stopOf
    repeat' split
    all_goals omega
  have HE : Hid (stepF s = { s with stop := stopOf s }) := by
    show stepF s = _
    unfold stepF; rw [if_neg hz]
  rw [HE.out]
  obtain ⟨r, hr⟩ : ∃ r, stopOf s = r := ⟨_, rfl⟩
  have HR := Lib.hid hr
  rw [hr] at hst hz ⊢
  obtain ⟨r0, r1⟩ := hst
  have hne : (r != 0) = true := by simpa using hz
  clear h hok hr HE
  go_enter Tryd.func26, Tryd.ntmps26
  go_upto_region 0 with (fail)
  go_cut [1, 2] (fun s1 s2 wx => s1 = .pointer (some ⟨w.heap.size, 0, none⟩) ∧ s2 = .pointer (some ⟨w.heap.size + 1, 0, none⟩) ∧ Two2 w wx cs)
  case first =>
    go_wp2_with fail
    go_meet
    exact ⟨rfl, rfl, zeroSt_lit ▸ two2_mk w cs⟩
  case rest =>
    obtain ⟨rfl, rfl, ht⟩ := hcut
    have HT := Lib.hid ht
    have HC := Lib.hid (stopped_c cs s wc (HH.out.st.ext ht.x) HOK.out)
    clear ht
    go_wp2_with (refine wpList_load_row rfl 28 _ rfl w.heap.size rfl 28 cs (0, 0) _ HT.out.b1 Tryd.underlying28 rfl (by rw [HS.out]; exact size28) ?_)
    refine HC.out.mono ?_
    rw [HR.out]
    rintro e w1 ⟨rfl, hx1⟩
    have HT1 := Lib.hid (HT.out.ext hx1)
    have k1 : w1.cell? ⟨w.heap.size, 38, none⟩ = some (.int .i64 s.stop) := (blk_cell HT1.out.b1 38).trans HH.out.st.stop
    have k2 := blk_frozen HT1.out.b1 38
    have HB1 := Lib.hid (heap_set_bm HT1.out.b1 38 (.int .i64 r))
    have HB2 : Hid ((w1.setCell ⟨w.heap.size, 38, none⟩ (.int .i64 r)).heap[w.heap.size + 1]? = some (.cells zeroSt 28 (0, 0))) := (set_other (by omega)).trans HT1.out.b2
    have HSB : Hid ((cs.setIfInBounds 38 (.int .i64 r)).size = 39) := by show _ = _; rw [Array.size_setIfInBounds]; exact HS.out
    have HO : Hid ((cs.setIfInBounds 38 (.int .i64 r)).all (·.oneCell') = true) := st_one (stop_set HH.out.st ⟨by omega, by omega⟩)
    have HFIN := Lib.hid (stop_fin HH.out HT1.out (n := r) ⟨by omega, by omega⟩)
    clear hx1
    go_wp2_with (first | refine wpList_load_row rfl 28 _ rfl w.heap.size rfl 28 (cs.setIfInBounds 38 (.int .i64 r)) (0, 0) _ HB1.out Tryd.underlying28 rfl (by rw [HSB.out]; exact size28) ?_ | refine wpList_store_row rfl 28 _ _ rfl (w.heap.size + 1) (cs.setIfInBounds 38 (.int .i64 r)) rfl rfl 28 zeroSt HB2.out (by rw [HSB.out]; exact size28) (by rw [HSB.out]; rfl) HO.out ?_)
    refine bodyPost_ret (results_one rfl _ _ (w.heap.size + 1) 28 (cs.setIfInBounds 38 (.int .i64 r)) (0, 0) _ rfl ?_ Tryd.underlying28 rfl (by rw [HSB.out]; exact size28)) rfl HFIN.out
    exact setRow_heap _ _ _ _ _ _ HB2.out
end Go.Proofs.YtpooedfchjpndaaDoor
