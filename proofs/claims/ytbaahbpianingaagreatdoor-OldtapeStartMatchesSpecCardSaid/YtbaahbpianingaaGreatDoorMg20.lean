import Derived.Test.YtbaahbpianingaaGreatDoorMg19
import Derived.Test.YtbaahbpianingaaGreatDoorMg18
namespace Go.Proofs.YtbaahbpianingaaGreatDoor
open Go Go.Proofs Go.RowKit
open Tape (Rule Ts)
set_option maxHeartbeats 6400000
set_option maxRecDepth 100000
theorem ord_lt {q r : Rule} (h : q.st < r.st) : false = ordB (some q) r := by
  unfold ordB Tape.befB; simp; omega
theorem ord_gt {q r : Rule} (h : r.st < q.st) : true = ordB (some q) r := by
  unfold ordB Tape.befB; simp; omega
theorem ord_ge {q r : Rule} (h : q.st = r.st) (h2 : q.sy ≥ r.sy) : true = ordB (some q) r := by
  unfold ordB Tape.befB; simp; omega
theorem ord_eq {q r : Rule} (h : q.st = r.st) (h2 : ¬ q.sy ≥ r.sy) : false = ordB (some q) r := by
  unfold ordB Tape.befB; simp; omega
theorem RulesFault_c (A : Option Addr) (L : List Rule) (c : Nat) (w : World) (hl : L.length ≤ maxLen) (h1 : Rls w A L) (hwf : ∀ r ∈ L, RuleWf r) :
    Calls Tryz.prog 19 #[.slice A L.length c] w (FRet w (faultR L)) := by
  unfold maxLen at hl
  obtain ⟨n, hn⟩ : ∃ n, n = L.length := ⟨_, rfl⟩
  rw [← hn] at hl ⊢
  have HN := Lib.hid hn
  have HWF := Lib.hid hwf
  have H1 := Lib.hid h1
  clear hwf h1
  by_cases h2 : 64 < n
  · have hf : (2, -1) = faultR L := by unfold faultR; rw [if_pos (by rw [← hn]; exact h2)]
    have HF := Lib.hid hf
    clear hf hn
    go_enter Tryz.func19, Tryz.ntmps19
    go_wp2_with (go_at_call 32; refine (At_c _ _ _).mono ?_; rintro e w' ⟨rfl, rfl⟩)
    exact bodyPost_ret (v := fAgg (2, -1)) (by simp [results, Tryz.results19, go_sem, fAgg]) rfl (FRet.mk HF.out (by repeat (first | exact Ext.refl _ | apply Ext.alloc)))
  · obtain ⟨R, hR⟩ : ∃ R, R = faultR L := ⟨_, rfl⟩
    have hs : scanR 0 (prevR L 0) (L.drop 0) = R := by rw [hR]; unfold faultR; rw [if_neg (by rw [← hn]; exact h2)]; rfl
    have HS := Lib.hid hs
    rw [← hR]
    clear hs hR hn
    go_enter Tryz.func19, Tryz.ntmps19
    go_wp2
    go_loopw [3] (fun t11 wx => ∃ k : Nat, k ≤ n ∧ t11 = .int .i64 k ∧ wx.heap[w.heap.size]? = some (.cells #[.int .i64 0, .int .i64 0] 27 (0, 0)) ∧ Hid (scanR k (prevR L k) (L.drop k) = R) ∧ Hid (∀ q, prevR L k = some q → Tape.ruleB q = true) ∧ Ext w wx) (fun t11 _ => n - (intOf t11).toNat)
    case atStart => exact ⟨0, Nat.zero_le _, rfl, heap_alloc_new w _, HS, Lib.hid (fun q hq => by cases hq), (Ext.refl w).alloc _⟩
    case round =>
    obtain ⟨k, hk, rfl, hb, hsc, hpv, hx⟩ := hrel
    have HB := Lib.hid hb
    have HX := Lib.hid hx
    have hltr : w.heap.size < wr.heap.size := (Array.getElem?_eq_some_iff.1 hb).1
    clear hb hx
    by_cases hlt : k < n
    · obtain ⟨r, hr⟩ : ∃ r, L[k]? = some r := ⟨_, List.getElem?_eq_getElem (by rw [← HN.out]; exact hlt)⟩
      obtain ⟨b, o, rfl, hra⟩ := Rls.at_ (H1.out.ext HX.out) hr
      have HRA := Lib.hid hra
      have HRR := Lib.hid hr
      have HST := Lib.hid (scan_step hr)
      clear hra hr
      go_upto_region 6 with (fail)
      go_cut [4] (fun s4 wx => s4 = .pointer (some ⟨wr.heap.size, 0, none⟩) ∧ wx.heap[wr.heap.size]? = some (.cells (ruleV r).toArray 54 (0, 0)) ∧ Ext wr wx)
      case first =>
        have HZ := Lib.hid (heap_alloc_new wr (.cells #[.int .i64 0, .int .i64 0, .int .i64 0, .int .i64 0, .int .i64 0] 54))
        go_wp2_with (first | refine wpList_load_cells rfl 54 _ rfl b (o + k * 5) rfl _ (ruleV r) HRA.out.cells Tryz.underlying54 rfl sizeR ?_ | refine wpList_store_row rfl 54 _ _ rfl wr.heap.size (ruleV r).toArray rfl rfl 54 _ HZ.out sizeR rfl (ruleV_one r) ?_)
        go_meet
        exact ⟨rfl, setRow_heap _ _ _ _ _ _ HZ.out, ((Ext.refl wr).alloc _).setRow (Nat.le_refl _) _⟩
      obtain ⟨rfl, hbr, hxa⟩ := hcut
      obtain ⟨wa, rfl⟩ : ∃ wa : World, wa = wc := ⟨_, rfl⟩
      have HXA := Lib.hid hxa
      have HBA := Lib.hid (ext_heap hxa HB.out)
      have HRB := Lib.hid hbr
      have hlta : wr.heap.size < wa.heap.size := (Array.getElem?_eq_some_iff.1 hbr).1
      have r0 : wa.cell? ⟨wr.heap.size, 0, none⟩ = some (.int .i64 r.st) := blk_cell hbr 0
      have r1 : wa.cell? ⟨wr.heap.size, 1, none⟩ = some (.int .i64 r.sy) := blk_cell hbr 1
      have r2 : wa.cell? ⟨wr.heap.size, 2, none⟩ = some (.int .i64 r.wr) := blk_cell hbr 2
      have r3 : wa.cell? ⟨wr.heap.size, 3, none⟩ = some (.int .i64 r.mv) := blk_cell hbr 3
      have r4 : wa.cell? ⟨wr.heap.size, 4, none⟩ = some (.int .i64 r.nx) := blk_cell hbr 4
      clear hxa hbr
      go_upto_region 7 with (fail)
      go_cut [46] (fun s43 wx => ∃ bb : Bool, s43 = .bool bb ∧ Hid (bb = !Tape.ruleB r) ∧ wa = wx)
      case first =>
        have HRI := Lib.hid (ruleB_in r)
        cases q0 : inB r.st 0 15
        · go_wp2_with (go_at_call 33; refine (In_c _ _ _ _).mono ?_; rintro e w' ⟨rfl, rfl⟩)
          go_meet
          exact ⟨true, by simp, Lib.hid (by rw [HRI.out, q0]; rfl), rfl⟩
        cases q1 : inB r.sy 0 3
        · go_wp2_with (go_at_call 33; refine (In_c _ _ _ _).mono ?_; rintro e w' ⟨rfl, rfl⟩)
          go_meet
          exact ⟨true, by simp, Lib.hid (by rw [HRI.out, q0, q1]; rfl), rfl⟩
        cases q2 : inB r.wr 0 3
        · go_wp2_with (go_at_call 33; refine (In_c _ _ _ _).mono ?_; rintro e w' ⟨rfl, rfl⟩)
          go_meet
          exact ⟨true, by simp, Lib.hid (by rw [HRI.out, q0, q1, q2]; rfl), rfl⟩
        cases q3 : inB r.mv (-1) 1
        · go_wp2_with (go_at_call 33; refine (In_c _ _ _ _).mono ?_; rintro e w' ⟨rfl, rfl⟩)
          go_meet
          exact ⟨true, by simp, Lib.hid (by rw [HRI.out, q0, q1, q2, q3]; rfl), rfl⟩
        cases q4 : inB r.nx (-1) 15
        · go_wp2_with (go_at_call 33; refine (In_c _ _ _ _).mono ?_; rintro e w' ⟨rfl, rfl⟩)
          go_meet
          exact ⟨true, by simp, Lib.hid (by rw [HRI.out, q0, q1, q2, q3, q4]; rfl), rfl⟩
        · go_wp2_with (go_at_call 33; refine (In_c _ _ _ _).mono ?_; rintro e w' ⟨rfl, rfl⟩)
          go_meet
          exact ⟨false, by simp, Lib.hid (by rw [HRI.out, q0, q1, q2, q3, q4]; rfl), rfl⟩
      obtain ⟨bb, rfl, hbb, rfl⟩ := hcut
      cases bb with
      | true =>
        have hrb : Tape.ruleB r = false := by have := hbb.out; simpa using this
        have HRE : Hid ((4, (k : Int)) = R) := Lib.hid (by rw [← hsc.out, HST.out, if_pos hrb])
        clear hrb hbb
        have HF := Lib.hid (ext_heap ((Ext.refl wa).alloc (.cells #[.int .i64 4, .int .i64 (k : Int)] 27)) HBA.out)
        go_wp2_with (first | (go_at_call 32; refine (At_c _ _ _).mono ?_; rintro e w' ⟨rfl, rfl⟩) | refine wpList_store_row rfl 27 _ _ rfl w.heap.size #[.int .i64 4, .int .i64 (k : Int)] rfl rfl 27 _ HF.out sizeF rfl (by kernel_rfl) ?_)
        refine bodyPost_ret (results_cell_row rfl _ _ w.heap.size 27 #[.int .i64 4, .int .i64 (k : Int)] (0, 0) _ rfl ?_ Tryz.underlying27 rfl sizeF) rfl (FRet.mk HRE.out (((HX.out.trans HXA.out).alloc _).setRow (Nat.le_refl _) _))
        exact setRow_heap _ _ _ _ _ _ HF.out
      | false =>
      have hrb : Tape.ruleB r = true := by have := hbb.out; simpa using this
      have HRB1 := Lib.hid hrb
      clear hrb hbb
      go_upto_region 9 with (fail)
      go_cut [83] (fun s70 wx => ∃ bb : Bool, s70 = .bool bb ∧ Hid (bb = ordB (prevR L k) r) ∧ Ext wa wx)
      case first =>
        rcases k with _ | j
        · go_quiet (fail)
          go_wp2
          go_meet
          exact ⟨false, by simp, Lib.hid (by simp [prevR, ordB]), (Ext.refl wa).drewN _⟩
        · obtain ⟨q, hq⟩ : ∃ q, L[j]? = some q := ⟨_, List.getElem?_eq_getElem (by rw [← HN.out]; omega)⟩
          have hpq := prevR_succ hq
          have HPQ := Lib.hid hpq
          obtain ⟨b', o', e', hqa⟩ := Rls.at_ (H1.out.ext (HX.out.trans HXA.out)) hq
          cases e'
          have q0 := hqa.st
          have q1 := hqa.sy
          have hjn : j < n := by omega
          have wj : IntKind.i64.wrap (j : Int) = (j : Int) := IntWalk.i64_in _ (by omega)
          have wj2 : IntKind.i64.wrap ((j : Int) + 1 - 1) = (j : Int) := by rw [Int.add_sub_cancel]; exact wj
          have j0 : (0 : Int) ≤ (j : Int) := by omega
          have j1 : (j : Int) < (n : Int) := by omega
          have kk : decide ((j : Int) + 1 > 0) = true := decide_eq_true (by omega)
          clear hpq hq hqa r2 r3 r4
          rcases Int.lt_trichotomy q.st r.st with h1 | h1 | h1
          · have d1 : decide (q.st > r.st) = false := by simp; omega
            have d2 : (q.st == r.st) = false := by simp; omega
            have HE : Hid (false = ordB (prevR L (j + 1)) r) := Lib.hid (by rw [HPQ.out]; exact ord_lt h1)
            clear h1
            go_quiet (fail)
            go_wp2
            go_meet
            exact ⟨false, rfl, HE, (Ext.refl wa).drewN _⟩
          · have d1 : decide (q.st > r.st) = false := by simp; omega
            have d2 : (q.st == r.st) = true := by simpa using h1
            by_cases h2 : q.sy ≥ r.sy
            · have d3 : decide (q.sy ≥ r.sy) = true := by simpa using h2
              have HE : Hid (true = ordB (prevR L (j + 1)) r) := Lib.hid (by rw [HPQ.out]; exact ord_ge h1 h2)
              clear h1 h2
              go_quiet (fail)
              go_wp2
              go_meet
              exact ⟨true, rfl, HE, (Ext.refl wa).drewN _⟩
            · have d3 : decide (q.sy ≥ r.sy) = false := by simp; omega
              have HE : Hid (false = ordB (prevR L (j + 1)) r) := Lib.hid (by rw [HPQ.out]; exact ord_eq h1 h2)
              clear h1 h2
              go_quiet (fail)
              go_wp2
              go_meet
              exact ⟨false, rfl, HE, (Ext.refl wa).drewN _⟩
          · have d1 : decide (q.st > r.st) = true := by simp; omega
            have HE : Hid (true = ordB (prevR L (j + 1)) r) := Lib.hid (by rw [HPQ.out]; exact ord_gt h1)
            clear h1
            go_quiet (fail)
            go_wp2
            go_meet
            exact ⟨true, rfl, HE, (Ext.refl wa).drewN _⟩
      obtain ⟨bb, rfl, hbb, hxb⟩ := hcut
      obtain ⟨wb, rfl⟩ : ∃ wb : World, wb = wc := ⟨_, rfl⟩
      have HXB := Lib.hid (HXA.out.trans hxb)
      have HBB := Lib.hid (ext_heap hxb HBA.out)
      have hltb : w.heap.size < wb.heap.size := (Array.getElem?_eq_some_iff.1 HBB.out).1
      clear hxb r0 r1 r2 r3 r4
      cases bb with
      | true =>
        have HRE : Hid ((11, (k : Int)) = R) := Lib.hid (by rw [← hsc.out, HST.out, if_neg (by rw [HRB1.out]; decide), if_pos hbb.out.symm])
        clear hbb
        have HF := Lib.hid (ext_heap ((Ext.refl wb).alloc (.cells #[.int .i64 11, .int .i64 (k : Int)] 27)) HBB.out)
        go_wp2_with (first | (go_at_call 32; refine (At_c _ _ _).mono ?_; rintro e w' ⟨rfl, rfl⟩) | refine wpList_store_row rfl 27 _ _ rfl w.heap.size #[.int .i64 11, .int .i64 (k : Int)] rfl rfl 27 _ HF.out sizeF rfl (by kernel_rfl) ?_)
        refine bodyPost_ret (results_cell_row rfl _ _ w.heap.size 27 #[.int .i64 11, .int .i64 (k : Int)] (0, 0) _ rfl ?_ Tryz.underlying27 rfl sizeF) rfl (FRet.mk HRE.out (((HX.out.trans HXB.out).alloc _).setRow (Nat.le_refl _) _))
        exact setRow_heap _ _ _ _ _ _ HF.out
      | false =>
        have HRE : Hid (scanR (k + 1) (prevR L (k + 1)) (L.drop (k + 1)) = R) := Lib.hid (by rw [← hsc.out, HST.out, if_neg (by rw [HRB1.out]; decide), if_neg (by rw [← hbb.out]; decide)])
        have HPN : Hid (∀ q, prevR L (k + 1) = some q → Tape.ruleB q = true) := Lib.hid (fun q hq => by rw [prevR_succ HRR.out] at hq; cases hq; exact HRB1.out)
        clear hbb
        go_wp2_with fail
        go_roundw
        case rel => exact ⟨k + 1, by omega, by go_num, HBB.out, HRE, HPN, HX.out.trans HXB.out⟩
        case measure => simp [intOf]; omega
    · have HRE : Hid ((0, 0) = R) := Lib.hid (by rw [← hsc.out, List.drop_eq_nil_of_le (by rw [← HN.out]; omega)]; rfl)
      go_wp2_with (refine wpList_store_row rfl 27 _ _ rfl w.heap.size #[.int .i64 0, .int .i64 0] rfl rfl 27 _ HB.out sizeF rfl (by kernel_rfl) ?_)
      refine bodyPost_ret (results_cell_row rfl _ _ w.heap.size 27 #[.int .i64 0, .int .i64 0] (0, 0) _ rfl ?_ Tryz.underlying27 rfl sizeF) rfl (FRet.mk HRE.out (HX.out.setRow (Nat.le_refl _) _))
      exact setRow_heap _ _ _ _ _ _ HB.out
end Go.Proofs.YtbaahbpianingaaGreatDoor
namespace Go.Proofs.YtbaahbpianingaaGreatDoor
open Go Go.Proofs Go.RowKit
open Tape (Rule Ts)
set_option maxHeartbeats 6400000
set_option maxRecDepth 100000
def goodTo (l : List Int) (k : Nat) : Bool := (l.take k).all symB
theorem goodTo_succ {l : List Int} {k : Nat} {x : Int} (h : l[k]? = some x) : goodTo l (k + 1) = (goodTo l k && symB x) := by
  unfold goodTo
  rw [List.take_add_one, h]
  simp
theorem goodTo_all (l : List Int) : goodTo l l.length = !badB l := by
  unfold goodTo badB
  rw [List.take_length]
  induction l with
  | nil => rfl
  | cons x l ih => rw [List.all_cons, List.any_cons, ih]; cases symB x <;> simp
theorem TapeFault_c (cs : Array Value) (s : Ts) (w : World) (h : TsIs w cs s) : Calls Tryz.prog 9 #[.agg cs] w (FRet w (faultT s)) := by
  obtain ⟨A0, c0, e0, l0, m0, -, s0⟩ := h.rules
  obtain ⟨A1, c1, e1, l1, m1, -, s1⟩ := h.cells
  have e2 := h.at_
  have e3 := h.state
  have e4 := h.stop
  have HCR := Lib.hid (fun (W : World) (x : Ext w W) => RulesFault_c A0 s.rules c0 W (Nat.le_trans l0 m0) (s0.ext x) h.wf.rules)
  have HSL := Lib.hid (fun (W : World) (x : Ext w W) => s1.ext x)
  have hnl := Nat.le_trans l1 m1
  unfold maxLen at hnl
  obtain ⟨R, hR⟩ : ∃ R, R = faultT s := ⟨_, rfl⟩
  have HR := Lib.hid hR
  rw [← hR]
  have HSZ := Lib.hid h.size
  clear hR h s0 s1 l0 m0 l1 m1
  go_enter Tryz.func9, Tryz.ntmps9
  go_upto_region 0 with (fail)
  go_cut [1, 2] (fun s1 s2 wx => s1 = .pointer (some ⟨w.heap.size, 0, none⟩) ∧ s2 = .pointer (some ⟨w.heap.size + 1, 0, none⟩) ∧ wx.heap[w.heap.size]? = some (.cells cs 25 (0, 0)) ∧ wx.heap[w.heap.size + 1]? = some (.cells #[.int .i64 0, .int .i64 0] 27 (0, 0)) ∧ Ext w wx)
  case first =>
    go_wp2_with fail
    go_meet
    exact ⟨rfl, by simp, heap_alloc2_old w _ _, heap_alloc2_new w _ _, ((Ext.refl w).alloc _).alloc _⟩
  obtain ⟨rfl, rfl, hb1, hb2, hx⟩ := hcut
  obtain ⟨wa, rfl⟩ : ∃ wa : World, wa = wc := ⟨_, rfl⟩
  have HX := Lib.hid hx
  have HB1 := Lib.hid hb1
  have HB2 := Lib.hid hb2
  have k0 : wa.cell? ⟨w.heap.size, 0, none⟩ = some (.slice A0 s.rules.length c0) := (blk_cell hb1 0).trans e0
  obtain ⟨fc, fi, hf⟩ : ∃ fc fi, faultR s.rules = (fc, fi) := ⟨_, _, rfl⟩
  have HF := Lib.hid hf
  clear hx hb1 hb2 hf
  go_upto_region 1 with (fail)
  go_cut [3] (fun s3 wx => ∃ g3, s3 = .pointer (some ⟨g3, 0, none⟩) ∧ wx.heap[g3]? = some (.cells #[.int .i64 fc, .int .i64 fi] 27 (0, 0)) ∧ Ext wa wx)
  case first =>
    have hr := HCR.out wa HX.out
    rw [HF.out] at hr
    have HRR := Lib.hid hr
    clear hr
    go_wp2_with fail
    refine HRR.out.mono ?_
    rintro e w1 ⟨rfl, hx1⟩
    have HX1 := Lib.hid hx1
    have HZ := Lib.hid (heap_alloc_new w1 (.cells #[.int .i64 0, .int .i64 0] 27))
    clear hx1
    simp only [fAgg]
    go_wp2_with (refine wpList_store_row rfl 27 _ _ rfl w1.heap.size #[.int .i64 fc, .int .i64 fi] rfl rfl 27 _ HZ.out sizeF rfl (by kernel_rfl) ?_)
    go_meet
    exact ⟨_, rfl, setRow_heap _ _ _ _ _ _ HZ.out, HX1.out.trans (((Ext.refl w1).alloc _).setRow (Nat.le_refl _) _)⟩
  obtain ⟨g3, rfl, hb3, hx3⟩ := hcut
  obtain ⟨wb, rfl⟩ : ∃ wb : World, wb = wc := ⟨_, rfl⟩
  have HXB := Lib.hid (HX.out.trans hx3)
  have HC1 := Lib.hid (ext_heap hx3 HB1.out)
  have HC2 := Lib.hid (ext_heap hx3 HB2.out)
  have f0 : wb.cell? ⟨g3, 0, none⟩ = some (.int .i64 fc) := blk_cell hb3 0
  have f1 : wb.cell? ⟨g3, 1, none⟩ = some (.int .i64 fi) := blk_cell hb3 1
  have k1 : wb.cell? ⟨w.heap.size, 1, none⟩ = some (.slice A1 s.cells.length c1) := (blk_cell HC1.out 1).trans e1
  have k2 : wb.cell? ⟨w.heap.size, 2, none⟩ = some (.int .i64 s.at_) := (blk_cell HC1.out 2).trans e2
  have k3 : wb.cell? ⟨w.heap.size, 3, none⟩ = some (.int .i64 s.state) := (blk_cell HC1.out 3).trans e3
  have k4 : wb.cell? ⟨w.heap.size, 4, none⟩ = some (.int .i64 s.stop) := (blk_cell HC1.out 4).trans e4
  clear hx3 k0 e0 e1 e2 e3 e4 hb3
  by_cases hgood : faultR s.rules = (0, 0)
  rotate_left
  · have hne : (fc != 0) = true := by
      have := faultR_code hgood
      rw [HF.out] at this
      simpa using this
    have HRE : Hid ((fc, fi) = R) := Lib.hid (by rw [HR.out]; unfold faultT; rw [if_pos hgood, HF.out])
    clear hgood
    go_wp2_with (refine wpList_store_row rfl 27 _ _ rfl (w.heap.size + 1) #[.int .i64 fc, .int .i64 fi] rfl rfl 27 _ HC2.out sizeF rfl (by kernel_rfl) ?_)
    refine bodyPost_ret (results_cell_row rfl _ _ (w.heap.size + 1) 27 #[.int .i64 fc, .int .i64 fi] (0, 0) _ rfl ?_ Tryz.underlying27 rfl sizeF) rfl (FRet.mk HRE.out (HXB.out.setRow (by omega) _))
    exact setRow_heap _ _ _ _ _ _ HC2.out
  have hfc : fc = 0 := by have := HF.out; rw [hgood] at this; cases this; rfl
  have hfi : fi = 0 := by have := HF.out; rw [hgood] at this; cases this; rfl
  subst hfc hfi
  have HG := Lib.hid hgood
  clear hgood
  cases q1 : inB s.cells.length 1 200
  · have HRE : Hid ((9, -1) = R) := Lib.hid (by rw [HR.out]; unfold faultT; rw [if_neg (by rw [HG.out]; simp), if_pos q1])
    have HD2 := Lib.hid (ext_heap ((Ext.refl wb).alloc (.cells #[.int .i64 9, .int .i64 (-1)] 27)) HC2.out)
    go_wp2_with (first | (go_at_call 33; refine (In_c _ _ _ _).mono ?_; rintro e w' ⟨rfl, rfl⟩) | (go_at_call 32; refine (At_c _ _ _).mono ?_; rintro e w' ⟨rfl, rfl⟩) | refine wpList_store_row rfl 27 _ _ rfl (w.heap.size + 1) #[.int .i64 9, .int .i64 (-1)] rfl rfl 27 _ HD2.out sizeF rfl (by kernel_rfl) ?_)
    refine bodyPost_ret (results_cell_row rfl _ _ (w.heap.size + 1) 27 #[.int .i64 9, .int .i64 (-1)] (0, 0) _ rfl ?_ Tryz.underlying27 rfl sizeF) rfl (FRet.mk HRE.out ((HXB.out.alloc _).setRow (by omega) _))
    exact setRow_heap _ _ _ _ _ _ HD2.out
  have hn1 : (1 : Int) ≤ (s.cells.length : Int) ∧ (s.cells.length : Int) ≤ 200 := by unfold inB at q1; simpa using q1
  obtain ⟨n, hn⟩ : ∃ n, n = s.cells.length := ⟨_, rfl⟩
  rw [← hn] at k1 hnl hn1
  have HN := Lib.hid hn
  have w1 : IntKind.i64.wrap ((n : Int) - 1) = (n : Int) - 1 := IntWalk.i64_in _ (by omega)
  clear hn
  go_upto_region 6 with (go_at_call 33; refine (In_c _ _ _ _).mono ?_; rintro e w' ⟨rfl, rfl⟩; rw [show inB (n : Int) 1 200 = true by rw [HN.out]; exact q1])
  go_cut [4] (fun s4 wx => ∃ bb : Bool, s4 = .bool bb ∧ Hid (bb = (inB s.at_ 0 ((n : Int) - 1) && inB s.state 0 15 && inB s.stop 0 7)) ∧ wb = wx)
  case first =>
    cases q3 : inB s.at_ 0 ((n : Int) - 1)
    · go_wp2_with (go_at_call 33; refine (In_c _ _ _ _).mono ?_; rintro e w' ⟨rfl, rfl⟩; try rw [q3])
      go_meet
      exact ⟨false, by simp, Lib.hid (by simp [q3]), rfl⟩
    cases q4 : inB s.state 0 15
    · go_wp2_with (go_at_call 33; refine (In_c _ _ _ _).mono ?_; rintro e w' ⟨rfl, rfl⟩; first | rw [q3] | rw [q4])
      go_meet
      exact ⟨false, by simp, Lib.hid (by simp [q3, q4]), rfl⟩
    cases q5 : inB s.stop 0 7
    · go_wp2_with (go_at_call 33; refine (In_c _ _ _ _).mono ?_; rintro e w' ⟨rfl, rfl⟩; first | rw [q3] | rw [q4] | rw [q5])
      go_meet
      exact ⟨false, by simp, Lib.hid (by simp [q3, q4, q5]), rfl⟩
    · go_wp2_with (go_at_call 33; refine (In_c _ _ _ _).mono ?_; rintro e w' ⟨rfl, rfl⟩; first | rw [q3] | rw [q4] | rw [q5])
      go_meet
      exact ⟨true, by simp, Lib.hid (by simp [q3, q4, q5]), rfl⟩
  obtain ⟨b0, rfl, hb0, rfl⟩ := hcut
  go_wp2_with fail
  go_loop [4, 5] (fun t4 t5 => ∃ k : Nat, ∃ bb : Bool, k ≤ n ∧ t5 = .int .i64 k ∧ t4 = .bool bb ∧ Hid (bb = (b0 && goodTo s.cells k))) (fun _ t5 => n - (intOf t5).toNat)
  case atStart => exact ⟨0, b0, Nat.zero_le _, rfl, rfl, Lib.hid (by simp [goodTo])⟩
  case round =>
  obtain ⟨k, bb, hk, rfl, rfl, hbb⟩ := hrel
  by_cases hlt : k < n
  · obtain ⟨b, o, x, rfl, hx, ha⟩ := (HSL.out wb HXB.out).at2 (show k < s.cells.length by rw [← HN.out]; exact hlt)
    have HS := Lib.hid (goodTo_succ hx.out)
    cases bb with
    | false =>
      go_wp2_with fail
      go_round
      case rel => exact ⟨k + 1, false, by omega, by go_num, rfl, Lib.hid (by rw [HS.out, ← Bool.and_assoc, ← hbb.out]; rfl)⟩
      case measure => simp [intOf]; omega
    | true =>
      go_wp2_with (go_at_call 33; refine (In_c _ _ _ _).mono ?_; rintro e w' ⟨rfl, rfl⟩)
      go_round
      case rel => exact ⟨k + 1, inB x 0 3, by omega, by go_num, by simp, Lib.hid (by rw [HS.out, ← Bool.and_assoc, ← hbb.out]; rfl)⟩
      case measure => simp [intOf]; omega
  · have hkn : k = n := by omega
    subst hkn
    have HBB : Hid (bb = (inB s.at_ 0 ((k : Int) - 1) && inB s.state 0 15 && inB s.stop 0 7 && !badB s.cells)) := Lib.hid (by rw [hbb.out, hb0.out, HN.out, goodTo_all])
    clear hbb
    cases bb with
    | false =>
      have HRE : Hid ((4, -1) = R) := Lib.hid (by
        rw [HR.out]; unfold faultT
        rw [if_neg (by rw [HG.out]; simp), if_neg (by rw [q1]; decide), if_pos]
        have := HBB.out
        rw [HN.out] at this
        revert this
        cases badB s.cells <;> cases inB s.at_ 0 ((s.cells.length : Int) - 1) <;> cases inB s.state 0 15 <;> cases inB s.stop 0 7 <;> simp)
      clear HBB
      have HD2 := Lib.hid (ext_heap ((Ext.refl wb).alloc (.cells #[.int .i64 4, .int .i64 (-1)] 27)) HC2.out)
      go_wp2_with (first | (go_at_call 32; refine (At_c _ _ _).mono ?_; rintro e w' ⟨rfl, rfl⟩) | refine wpList_store_row rfl 27 _ _ rfl (w.heap.size + 1) #[.int .i64 4, .int .i64 (-1)] rfl rfl 27 _ HD2.out sizeF rfl (by kernel_rfl) ?_)
      refine bodyPost_ret (results_cell_row rfl _ _ (w.heap.size + 1) 27 #[.int .i64 4, .int .i64 (-1)] (0, 0) _ rfl ?_ Tryz.underlying27 rfl sizeF) rfl (FRet.mk HRE.out ((HXB.out.alloc _).setRow (by omega) _))
      exact setRow_heap _ _ _ _ _ _ HD2.out
    | true =>
      have HRE : Hid ((0, 0) = R) := Lib.hid (by
        rw [HR.out]; unfold faultT
        rw [if_neg (by rw [HG.out]; simp), if_neg (by rw [q1]; decide), if_neg]
        have := HBB.out
        rw [HN.out] at this
        revert this
        cases badB s.cells <;> cases inB s.at_ 0 ((s.cells.length : Int) - 1) <;> cases inB s.state 0 15 <;> cases inB s.stop 0 7 <;> simp)
      clear HBB
      go_wp2_with (refine wpList_store_row rfl 27 _ _ rfl (w.heap.size + 1) #[.int .i64 0, .int .i64 0] rfl rfl 27 _ HC2.out sizeF rfl (by kernel_rfl) ?_)
      refine bodyPost_ret (results_cell_row rfl _ _ (w.heap.size + 1) 27 #[.int .i64 0, .int .i64 0] (0, 0) _ rfl ?_ Tryz.underlying27 rfl sizeF) rfl (FRet.mk HRE.out (HXB.out.setRow (by omega) _))
      exact setRow_heap _ _ _ _ _ _ HC2.out
end Go.Proofs.YtbaahbpianingaaGreatDoor
namespace Go.Proofs.YtbaahbpianingaaGreatDoor
open Go Go.Proofs Go.RowKit
open Tape (Rule Ts)
set_option maxHeartbeats 6400000
set_option maxRecDepth 100000
theorem sameTB_eq (s t : Ts) : sameTB s t = (decide (s.rules = t.rules) && decide (s.cells = t.cells) && (s.at_ == t.at_) && (s.state == t.state) && (s.stop == t.stop)) := by
  unfold sameTB
  rw [Bool.eq_iff_iff]
  simp
theorem SameTape_c (cs ds : Array Value) (s t : Ts) (w : World) (hs : TsIs w cs s) (ht : TsIs w ds t) :
    Calls Tryz.prog 13 #[.agg cs, .agg ds] w (BRet w (sameTB s t)) := by
  obtain ⟨A0, c0, e0, l0, m0, -, s0⟩ := hs.rules
  obtain ⟨A1, c1, e1, l1, m1, -, s1⟩ := hs.cells
  obtain ⟨B0, d0, f0, p0, q0, -, t0⟩ := ht.rules
  obtain ⟨B1, d1, f1, p1, q1, -, t1⟩ := ht.cells
  have e2 := hs.at_
  have e3 := hs.state
  have e4 := hs.stop
  have f2 := ht.at_
  have f3 := ht.state
  have f4 := ht.stop
  have HSR := Lib.hid (fun (W : World) (x : Ext w W) => SameRules_c A0 B0 s.rules t.rules c0 d0 W (Nat.le_trans l0 m0) (Nat.le_trans p0 q0) (s0.ext x) (t0.ext x))
  have HIN := Lib.hid (fun (W : World) (x : Ext w W) => Ints_c A1 B1 s.cells t.cells c1 d1 W (Nat.le_trans l1 m1) (Nat.le_trans p1 q1) (s1.ext x) (t1.ext x))
  clear s0 s1 t0 t1 l0 l1 m0 m1 p0 p1 q0 q1
  obtain ⟨R, hR⟩ : ∃ R, R = sameTB s t := ⟨_, rfl⟩
  have HR : Hid (R = (decide (s.rules = t.rules) && decide (s.cells = t.cells) && (s.at_ == t.at_) && (s.state == t.state) && (s.stop == t.stop))) := Lib.hid (hR.trans (sameTB_eq s t))
  rw [← hR]
  clear hR hs ht
  go_enter Tryz.func13, Tryz.ntmps13
  go_upto_region 0 with (fail)
  go_cut [2, 3, 4] (fun s2 s3 s4 wx => s2 = .pointer (some ⟨w.heap.size, 0, none⟩) ∧ s3 = .pointer (some ⟨w.heap.size + 1, 0, none⟩) ∧ s4 = .bool false ∧ wx.heap[w.heap.size]? = some (.cells cs 25 (0, 0)) ∧ wx.heap[w.heap.size + 1]? = some (.cells ds 25 (0, 0)) ∧ Ext w wx)
  case first =>
    go_wp2_with fail
    go_meet
    exact ⟨rfl, by simp, rfl, heap_alloc2_old w _ _, heap_alloc2_new w _ _, ((Ext.refl w).alloc _).alloc _⟩
  obtain ⟨rfl, rfl, rfl, hb1, hb2, hx⟩ := hcut
  obtain ⟨wa, rfl⟩ : ∃ wa : World, wa = wc := ⟨_, rfl⟩
  have HX := Lib.hid hx
  have k0 : wa.cell? ⟨w.heap.size, 0, none⟩ = some (.slice A0 s.rules.length c0) := (blk_cell hb1 0).trans e0
  have k1 : wa.cell? ⟨w.heap.size, 1, none⟩ = some (.slice A1 s.cells.length c1) := (blk_cell hb1 1).trans e1
  have k2 : wa.cell? ⟨w.heap.size, 2, none⟩ = some (.int .i64 s.at_) := (blk_cell hb1 2).trans e2
  have k3 : wa.cell? ⟨w.heap.size, 3, none⟩ = some (.int .i64 s.state) := (blk_cell hb1 3).trans e3
  have k4 : wa.cell? ⟨w.heap.size, 4, none⟩ = some (.int .i64 s.stop) := (blk_cell hb1 4).trans e4
  have j0 : wa.cell? ⟨w.heap.size + 1, 0, none⟩ = some (.slice B0 t.rules.length d0) := (blk_cell hb2 0).trans f0
  have j1 : wa.cell? ⟨w.heap.size + 1, 1, none⟩ = some (.slice B1 t.cells.length d1) := (blk_cell hb2 1).trans f1
  have j2 : wa.cell? ⟨w.heap.size + 1, 2, none⟩ = some (.int .i64 t.at_) := (blk_cell hb2 2).trans f2
  have j3 : wa.cell? ⟨w.heap.size + 1, 3, none⟩ = some (.int .i64 t.state) := (blk_cell hb2 3).trans f3
  have j4 : wa.cell? ⟨w.heap.size + 1, 4, none⟩ = some (.int .i64 t.stop) := (blk_cell hb2 4).trans f4
  clear hx hb1 hb2 e0 e1 e2 e3 e4 f0 f1 f2 f3 f4
  cases q0 : decide (s.rules = t.rules)
  · have HQ0 := Lib.hid q0
    have HE : Hid (false = R) := Lib.hid (by rw [HR.out, HQ0.out]; simp)
    clear q0
    have HQ1 := Lib.hid (rfl : decide (s.cells = t.cells) = decide (s.cells = t.cells))
    go_wp2_with (first | (go_at_call 21; refine (HSR.out _ (by repeat (first | exact HX.out | apply Ext.drewN))).mono ?_; rintro e w' ⟨rfl, n0, rfl⟩; rw [HQ0.out]) | (go_at_call 14; refine (HIN.out _ (by repeat (first | exact HX.out | apply Ext.drewN))).mono ?_; rintro e w' ⟨rfl, n1, rfl⟩; rw [HQ1.out]))
    go_ret
    exact ⟨ret_bool HE.out, by repeat (first | exact HX.out | apply Ext.drewN)⟩
  have HQ0 := Lib.hid q0
  clear q0
  cases q1 : decide (s.cells = t.cells)
  · have HQ1 := Lib.hid q1
    have HE : Hid (false = R) := Lib.hid (by rw [HR.out, HQ0.out, HQ1.out]; simp)
    clear q1
    go_wp2_with (first | (go_at_call 21; refine (HSR.out _ (by repeat (first | exact HX.out | apply Ext.drewN))).mono ?_; rintro e w' ⟨rfl, n0, rfl⟩; rw [HQ0.out]) | (go_at_call 14; refine (HIN.out _ (by repeat (first | exact HX.out | apply Ext.drewN))).mono ?_; rintro e w' ⟨rfl, n1, rfl⟩; rw [HQ1.out]))
    go_ret
    exact ⟨ret_bool HE.out, by repeat (first | exact HX.out | apply Ext.drewN)⟩
  have HQ1 := Lib.hid q1
  clear q1
  cases q2 : (s.at_ == t.at_)
  · have HE : Hid (false = R) := Lib.hid (by rw [HR.out, HQ0.out, HQ1.out, q2]; simp)
    go_wp2_with (first | (go_at_call 21; refine (HSR.out _ (by repeat (first | exact HX.out | apply Ext.drewN))).mono ?_; rintro e w' ⟨rfl, n0, rfl⟩; rw [HQ0.out]) | (go_at_call 14; refine (HIN.out _ (by repeat (first | exact HX.out | apply Ext.drewN))).mono ?_; rintro e w' ⟨rfl, n1, rfl⟩; rw [HQ1.out]))
    go_ret
    exact ⟨ret_bool HE.out, by repeat (first | exact HX.out | apply Ext.drewN)⟩
  cases q3 : (s.state == t.state)
  · have HE : Hid (false = R) := Lib.hid (by rw [HR.out, HQ0.out, HQ1.out, q2, q3]; simp)
    go_wp2_with (first | (go_at_call 21; refine (HSR.out _ (by repeat (first | exact HX.out | apply Ext.drewN))).mono ?_; rintro e w' ⟨rfl, n0, rfl⟩; rw [HQ0.out]) | (go_at_call 14; refine (HIN.out _ (by repeat (first | exact HX.out | apply Ext.drewN))).mono ?_; rintro e w' ⟨rfl, n1, rfl⟩; rw [HQ1.out]))
    go_ret
    exact ⟨ret_bool HE.out, by repeat (first | exact HX.out | apply Ext.drewN)⟩
  cases q4 : (s.stop == t.stop)
  · have HE : Hid (false = R) := Lib.hid (by rw [HR.out, HQ0.out, HQ1.out, q2, q3, q4]; simp)
    go_wp2_with (first | (go_at_call 21; refine (HSR.out _ (by repeat (first | exact HX.out | apply Ext.drewN))).mono ?_; rintro e w' ⟨rfl, n0, rfl⟩; rw [HQ0.out]) | (go_at_call 14; refine (HIN.out _ (by repeat (first | exact HX.out | apply Ext.drewN))).mono ?_; rintro e w' ⟨rfl, n1, rfl⟩; rw [HQ1.out]))
    go_ret
    exact ⟨ret_bool HE.out, by repeat (first | exact HX.out | apply Ext.drewN)⟩
  have HE : Hid (true = R) := Lib.hid (by rw [HR.out, HQ0.out, HQ1.out, q2, q3, q4]; rfl)
  go_wp2_with (first | (go_at_call 21; refine (HSR.out _ (by repeat (first | exact HX.out | apply Ext.drewN))).mono ?_; rintro e w' ⟨rfl, n0, rfl⟩; rw [HQ0.out]) | (go_at_call 14; refine (HIN.out _ (by repeat (first | exact HX.out | apply Ext.drewN))).mono ?_; rintro e w' ⟨rfl, n1, rfl⟩; rw [HQ1.out]))
  go_ret
  exact ⟨ret_bool HE.out, by repeat (first | exact HX.out | apply Ext.drewN)⟩
end Go.Proofs.YtbaahbpianingaaGreatDoor
