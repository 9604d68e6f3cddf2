import Derived.Test.YtbaahbpianingaaDoorTqF
namespace Go.Proofs.YtbaahbpianingaaDoor
open Go Go.Proofs Go.RowKit
open Tape (Rule Ts)
set_option maxHeartbeats 6400000
set_option maxRecDepth 100000
theorem sameTB_eq (s t : Ts) : sameTB s t = (decide (s.rules = t.rules) && decide (s.cells = t.cells) && (s.at_ == t.at_) && (s.state == t.state) && (s.stop == t.stop)) := by
  unfold sameTB
  rw [Bool.eq_iff_iff]
  simp
theorem SameTape_c (cs ds : Array Value) (s t : Ts) (w : World) (hs : TsIs w cs s) (ht : TsIs w ds t) :
    Calls Tryd.prog 33 #[.agg cs, .agg ds] w (BRet w (sameTB s t)) := by
  obtain ⟨A0, c0, e0, l0, m0, -, s0⟩ := hs.rules
  obtain ⟨A1, c1, e1, l1, m1, -, s1⟩ := hs.cells
  obtain ⟨B0, d0, f0, p0, q0, -, t0⟩ := ht.rules
  obtain ⟨B1, d1, f1, p1, q1, -, t1⟩ := ht.cells
  have e2 := hs.at_
  have e3 := hs.state
  have e4 := hs.stop
  have f2 := ht.at_
  have f3 := ht.state
  have f4 := ht.stop
  have HSR := Lib.hid (fun (W : World) (x : Ext w W) => SameRules_c A0 B0 s.rules t.rules c0 d0 W (Nat.le_trans l0 m0) (Nat.le_trans p0 q0) (s0.ext x) (t0.ext x))
  have HIN := Lib.hid (fun (W : World) (x : Ext w W) => Ints_c A1 B1 s.cells t.cells c1 d1 W (Nat.le_trans l1 m1) (Nat.le_trans p1 q1) (s1.ext x) (t1.ext x))
  clear s0 s1 t0 t1 l0 l1 m0 m1 p0 p1 q0 q1
  obtain ⟨R, hR⟩ : ∃ R, R = sameTB s t := ⟨_, rfl⟩
  have HR : Hid (R = (decide (s.rules = t.rules) && decide (s.cells = t.cells) && (s.at_ == t.at_) && (s.state == t.state) && (s.stop == t.stop))) := Lib.hid (hR.trans (sameTB_eq s t))
  rw [← hR]
  clear hR hs ht
  go_enter Tryd.func33, Tryd.ntmps33
  go_upto_region 0 with (fail)
  go_cut [2, 3, 4] (fun s2 s3 s4 wx => s2 = .pointer (some ⟨w.heap.size, 0, none⟩) ∧ s3 = .pointer (some ⟨w.heap.size + 1, 0, none⟩) ∧ s4 = .bool false ∧ wx.heap[w.heap.size]? = some (.cells cs 54 (0, 0)) ∧ wx.heap[w.heap.size + 1]? = some (.cells ds 54 (0, 0)) ∧ Ext w wx)
  case first =>
    go_wp2_with fail
    go_meet
    exact ⟨rfl, by simp, rfl, heap_alloc2_old w _ _, heap_alloc2_new w _ _, ((Ext.refl w).alloc _).alloc _⟩
  obtain ⟨rfl, rfl, rfl, hb1, hb2, hx⟩ := hcut
  obtain ⟨wa, rfl⟩ : ∃ wa : World, wa = wc := ⟨_, rfl⟩
  have HX := Lib.hid hx
  have k0 : wa.cell? ⟨w.heap.size, 0, none⟩ = some (.slice A0 s.rules.length c0) := (blk_cell hb1 0).trans e0
  have k1 : wa.cell? ⟨w.heap.size, 1, none⟩ = some (.slice A1 s.cells.length c1) := (blk_cell hb1 1).trans e1
  have k2 : wa.cell? ⟨w.heap.size, 2, none⟩ = some (.int .i64 s.at_) := (blk_cell hb1 2).trans e2
  have k3 : wa.cell? ⟨w.heap.size, 3, none⟩ = some (.int .i64 s.state) := (blk_cell hb1 3).trans e3
  have k4 : wa.cell? ⟨w.heap.size, 4, none⟩ = some (.int .i64 s.stop) := (blk_cell hb1 4).trans e4
  have j0 : wa.cell? ⟨w.heap.size + 1, 0, none⟩ = some (.slice B0 t.rules.length d0) := (blk_cell hb2 0).trans f0
  have j1 : wa.cell? ⟨w.heap.size + 1, 1, none⟩ = some (.slice B1 t.cells.length d1) := (blk_cell hb2 1).trans f1
  have j2 : wa.cell? ⟨w.heap.size + 1, 2, none⟩ = some (.int .i64 t.at_) := (blk_cell hb2 2).trans f2
  have j3 : wa.cell? ⟨w.heap.size + 1, 3, none⟩ = some (.int .i64 t.state) := (blk_cell hb2 3).trans f3
  have j4 : wa.cell? ⟨w.heap.size + 1, 4, none⟩ = some (.int .i64 t.stop) := (blk_cell hb2 4).trans f4
  clear hx hb1 hb2 e0 e1 e2 e3 e4 f0 f1 f2 f3 f4
  cases q0 : decide (s.rules = t.rules)
  · have HQ0 := Lib.hid q0
    have HE : Hid (false = R) := Lib.hid (by rw [HR.out, HQ0.out]; simp)
    clear q0
    have HQ1 := Lib.hid (rfl : decide (s.cells = t.cells) = decide (s.cells = t.cells))
    go_wp2_with (first | (go_at_call 36; refine (HSR.out _ (by repeat (first | exact HX.out | apply Ext.drewN))).mono ?_; rintro e w' ⟨rfl, n0, rfl⟩; rw [HQ0.out]) | (go_at_call 26; refine (HIN.out _ (by repeat (first | exact HX.out | apply Ext.drewN))).mono ?_; rintro e w' ⟨rfl, n1, rfl⟩; rw [HQ1.out]))
    go_ret
    exact ⟨ret_bool HE.out, by repeat (first | exact HX.out | apply Ext.drewN)⟩
  have HQ0 := Lib.hid q0
  clear q0
  cases q1 : decide (s.cells = t.cells)
  · have HQ1 := Lib.hid q1
    have HE : Hid (false = R) := Lib.hid (by rw [HR.out, HQ0.out, HQ1.out]; simp)
    clear q1
    go_wp2_with (first | (go_at_call 36; refine (HSR.out _ (by repeat (first | exact HX.out | apply Ext.drewN))).mono ?_; rintro e w' ⟨rfl, n0, rfl⟩; rw [HQ0.out]) | (go_at_call 26; refine (HIN.out _ (by repeat (first | exact HX.out | apply Ext.drewN))).mono ?_; rintro e w' ⟨rfl, n1, rfl⟩; rw [HQ1.out]))
    go_ret
    exact ⟨ret_bool HE.out, by repeat (first | exact HX.out | apply Ext.drewN)⟩
  have HQ1 := Lib.hid q1
  clear q1
  cases q2 : (s.at_ == t.at_)
  · have HE : Hid (false = R) := Lib.hid (by rw [HR.out, HQ0.out, HQ1.out, q2]; simp)
    go_wp2_with (first | (go_at_call 36; refine (HSR.out _ (by repeat (first | exact HX.out | apply Ext.drewN))).mono ?_; rintro e w' ⟨rfl, n0, rfl⟩; rw [HQ0.out]) | (go_at_call 26; refine (HIN.out _ (by repeat (first | exact HX.out | apply Ext.drewN))).mono ?_; rintro e w' ⟨rfl, n1, rfl⟩; rw [HQ1.out]))
    go_ret
    exact ⟨ret_bool HE.out, by repeat (first | exact HX.out | apply Ext.drewN)⟩
  cases q3 : (s.state == t.state)
  · have HE : Hid (false = R) := Lib.hid (by rw [HR.out, HQ0.out, HQ1.out, q2, q3]; simp)
    go_wp2_with (first | (go_at_call 36; refine (HSR.out _ (by repeat (first | exact HX.out | apply Ext.drewN))).mono ?_; rintro e w' ⟨rfl, n0, rfl⟩; rw [HQ0.out]) | (go_at_call 26; refine (HIN.out _ (by repeat (first | exact HX.out | apply Ext.drewN))).mono ?_; rintro e w' ⟨rfl, n1, rfl⟩; rw [HQ1.out]))
    go_ret
    exact ⟨ret_bool HE.out, by repeat (first | exact HX.out | apply Ext.drewN)⟩
  cases q4 : (s.stop == t.stop)
  · have HE : Hid (false = R) := Lib.hid (by rw [HR.out, HQ0.out, HQ1.out, q2, q3, q4]; simp)
    go_wp2_with (first | (go_at_call 36; refine (HSR.out _ (by repeat (first | exact HX.out | apply Ext.drewN))).mono ?_; rintro e w' ⟨rfl, n0, rfl⟩; rw [HQ0.out]) | (go_at_call 26; refine (HIN.out _ (by repeat (first | exact HX.out | apply Ext.drewN))).mono ?_; rintro e w' ⟨rfl, n1, rfl⟩; rw [HQ1.out]))
    go_ret
    exact ⟨ret_bool HE.out, by repeat (first | exact HX.out | apply Ext.drewN)⟩
  have HE : Hid (true = R) := Lib.hid (by rw [HR.out, HQ0.out, HQ1.out, q2, q3, q4]; rfl)
  go_wp2_with (first | (go_at_call 36; refine (HSR.out _ (by repeat (first | exact HX.out | apply Ext.drewN))).mono ?_; rintro e w' ⟨rfl, n0, rfl⟩; rw [HQ0.out]) | (go_at_call 26; refine (HIN.out _ (by repeat (first | exact HX.out | apply Ext.drewN))).mono ?_; rintro e w' ⟨rfl, n1, rfl⟩; rw [HQ1.out]))
  go_ret
  exact ⟨ret_bool HE.out, by repeat (first | exact HX.out | apply Ext.drewN)⟩
end Go.Proofs.YtbaahbpianingaaDoor
