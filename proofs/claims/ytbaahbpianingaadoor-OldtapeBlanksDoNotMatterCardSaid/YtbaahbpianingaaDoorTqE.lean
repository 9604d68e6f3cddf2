import Derived.Test.YtbaahbpianingaaDoorTqD
import Derived.Test.YtbaahbpianingaaDoorMg33
namespace Go.Proofs.YtbaahbpianingaaDoor
open Go Go.Proofs Go.RowKit
open Tape (Rule Ts)
set_option maxHeartbeats 6400000
set_option maxRecDepth 100000
theorem ord_lt {q r : Rule} (h : q.st < r.st) : false = ordB (some q) r := by
  unfold ordB Tape.befB; simp; omega
theorem ord_gt {q r : Rule} (h : r.st < q.st) : true = ordB (some q) r := by
  unfold ordB Tape.befB; simp; omega
theorem ord_ge {q r : Rule} (h : q.st = r.st) (h2 : q.sy ≥ r.sy) : true = ordB (some q) r := by
  unfold ordB Tape.befB; simp; omega
theorem ord_eq {q r : Rule} (h : q.st = r.st) (h2 : ¬ q.sy ≥ r.sy) : false = ordB (some q) r := by
  unfold ordB Tape.befB; simp; omega
theorem RulesFault_c (A : Option Addr) (L : List Rule) (c : Nat) (w : World) (hl : L.length ≤ maxLen) (h1 : Rls w A L) (hwf : ∀ r ∈ L, RuleWf r) :
    Calls Tryd.prog 55 #[.slice A L.length c] w (FRet w (faultR L)) := by
  unfold maxLen at hl
  obtain ⟨n, hn⟩ : ∃ n, n = L.length := ⟨_, rfl⟩
  rw [← hn] at hl ⊢
  have HN := Lib.hid hn
  have HWF := Lib.hid hwf
  have H1 := Lib.hid h1
  clear hwf h1
  by_cases h2 : 64 < n
  · have hf : (2, -1) = faultR L := by unfold faultR; rw [if_pos (by rw [← hn]; exact h2)]
    have HF := Lib.hid hf
    clear hf hn
    go_enter Tryd.func55, Tryd.ntmps55
    go_wp2_with (go_at_call 14; refine (At_c _ _ _).mono ?_; rintro e w' ⟨rfl, rfl⟩)
    exact bodyPost_ret (v := fAgg (2, -1)) (by simp [results, Tryd.results55, go_sem, fAgg]) rfl (FRet.mk HF.out (by repeat (first | exact Ext.refl _ | apply Ext.alloc)))
  · obtain ⟨R, hR⟩ : ∃ R, R = faultR L := ⟨_, rfl⟩
    have hs : scanR 0 (prevR L 0) (L.drop 0) = R := by rw [hR]; unfold faultR; rw [if_neg (by rw [← hn]; exact h2)]; rfl
    have HS := Lib.hid hs
    rw [← hR]
    clear hs hR hn
    go_enter Tryd.func55, Tryd.ntmps55
    go_wp2
    go_loopw [3] (fun t11 wx => ∃ k : Nat, k ≤ n ∧ t11 = .int .i64 k ∧ wx.heap[w.heap.size]? = some (.cells #[.int .i64 0, .int .i64 0] 28 (0, 0)) ∧ Hid (scanR k (prevR L k) (L.drop k) = R) ∧ Hid (∀ q, prevR L k = some q → Tape.ruleB q = true) ∧ Ext w wx) (fun t11 _ => n - (intOf t11).toNat)
    case atStart => exact ⟨0, Nat.zero_le _, rfl, heap_alloc_new w _, HS, Lib.hid (fun q hq => by cases hq), (Ext.refl w).alloc _⟩
    case round =>
    obtain ⟨k, hk, rfl, hb, hsc, hpv, hx⟩ := hrel
    have HB := Lib.hid hb
    have HX := Lib.hid hx
    have hltr : w.heap.size < wr.heap.size := (Array.getElem?_eq_some_iff.1 hb).1
    clear hb hx
    by_cases hlt : k < n
    · obtain ⟨r, hr⟩ : ∃ r, L[k]? = some r := ⟨_, List.getElem?_eq_getElem (by rw [← HN.out]; exact hlt)⟩
      obtain ⟨b, o, rfl, hra⟩ := Rls.at_ (H1.out.ext HX.out) hr
      have HRA := Lib.hid hra
      have HRR := Lib.hid hr
      have HST := Lib.hid (scan_step hr)
      clear hra hr
      go_upto_region 6 with (fail)
      go_cut [4] (fun s4 wx => s4 = .pointer (some ⟨wr.heap.size, 0, none⟩) ∧ wx.heap[wr.heap.size]? = some (.cells (ruleV r).toArray 88 (0, 0)) ∧ Ext wr wx)
      case first =>
        have HZ := Lib.hid (heap_alloc_new wr (.cells #[.int .i64 0, .int .i64 0, .int .i64 0, .int .i64 0, .int .i64 0] 88))
        go_wp2_with (first | refine wpList_load_cells rfl 88 _ rfl b (o + k * 5) rfl _ (ruleV r) HRA.out.cells Tryd.underlying88 rfl sizeR ?_ | refine wpList_store_row rfl 88 _ _ rfl wr.heap.size (ruleV r).toArray rfl rfl 88 _ HZ.out sizeR rfl (ruleV_one r) ?_)
        go_meet
        exact ⟨rfl, setRow_heap _ _ _ _ _ _ HZ.out, ((Ext.refl wr).alloc _).setRow (Nat.le_refl _) _⟩
      obtain ⟨rfl, hbr, hxa⟩ := hcut
      obtain ⟨wa, rfl⟩ : ∃ wa : World, wa = wc := ⟨_, rfl⟩
      have HXA := Lib.hid hxa
      have HBA := Lib.hid (ext_heap hxa HB.out)
      have HRB := Lib.hid hbr
      have hlta : wr.heap.size < wa.heap.size := (Array.getElem?_eq_some_iff.1 hbr).1
      have r0 : wa.cell? ⟨wr.heap.size, 0, none⟩ = some (.int .i64 r.st) := blk_cell hbr 0
      have r1 : wa.cell? ⟨wr.heap.size, 1, none⟩ = some (.int .i64 r.sy) := blk_cell hbr 1
      have r2 : wa.cell? ⟨wr.heap.size, 2, none⟩ = some (.int .i64 r.wr) := blk_cell hbr 2
      have r3 : wa.cell? ⟨wr.heap.size, 3, none⟩ = some (.int .i64 r.mv) := blk_cell hbr 3
      have r4 : wa.cell? ⟨wr.heap.size, 4, none⟩ = some (.int .i64 r.nx) := blk_cell hbr 4
      clear hxa hbr
      go_upto_region 7 with (fail)
      go_cut [46] (fun s43 wx => ∃ bb : Bool, s43 = .bool bb ∧ Hid (bb = !Tape.ruleB r) ∧ wa = wx)
      case first =>
        have HRI := Lib.hid (ruleB_in r)
        cases q0 : inB r.st 0 15
        · go_wp2_with (go_at_call 22; refine (In_c _ _ _ _).mono ?_; rintro e w' ⟨rfl, rfl⟩)
          go_meet
          exact ⟨true, by simp, Lib.hid (by rw [HRI.out, q0]; rfl), rfl⟩
        cases q1 : inB r.sy 0 3
        · go_wp2_with (go_at_call 22; refine (In_c _ _ _ _).mono ?_; rintro e w' ⟨rfl, rfl⟩)
          go_meet
          exact ⟨true, by simp, Lib.hid (by rw [HRI.out, q0, q1]; rfl), rfl⟩
        cases q2 : inB r.wr 0 3
        · go_wp2_with (go_at_call 22; refine (In_c _ _ _ _).mono ?_; rintro e w' ⟨rfl, rfl⟩)
          go_meet
          exact ⟨true, by simp, Lib.hid (by rw [HRI.out, q0, q1, q2]; rfl), rfl⟩
        cases q3 : inB r.mv (-1) 1
        · go_wp2_with (go_at_call 22; refine (In_c _ _ _ _).mono ?_; rintro e w' ⟨rfl, rfl⟩)
          go_meet
          exact ⟨true, by simp, Lib.hid (by rw [HRI.out, q0, q1, q2, q3]; rfl), rfl⟩
        cases q4 : inB r.nx (-1) 15
        · go_wp2_with (go_at_call 22; refine (In_c _ _ _ _).mono ?_; rintro e w' ⟨rfl, rfl⟩)
          go_meet
          exact ⟨true, by simp, Lib.hid (by rw [HRI.out, q0, q1, q2, q3, q4]; rfl), rfl⟩
        · go_wp2_with (go_at_call 22; refine (In_c _ _ _ _).mono ?_; rintro e w' ⟨rfl, rfl⟩)
          go_meet
          exact ⟨false, by simp, Lib.hid (by rw [HRI.out, q0, q1, q2, q3, q4]; rfl), rfl⟩
      obtain ⟨bb, rfl, hbb, rfl⟩ := hcut
      cases bb with
      | true =>
        have hrb : Tape.ruleB r = false := by have := hbb.out; simpa using this
        have HRE : Hid ((4, (k : Int)) = R) := Lib.hid (by rw [← hsc.out, HST.out, if_pos hrb])
        clear hrb hbb
        have HF := Lib.hid (ext_heap ((Ext.refl wa).alloc (.cells #[.int .i64 4, .int .i64 (k : Int)] 28)) HBA.out)
        go_wp2_with (first | (go_at_call 14; refine (At_c _ _ _).mono ?_; rintro e w' ⟨rfl, rfl⟩) | refine wpList_store_row rfl 28 _ _ rfl w.heap.size #[.int .i64 4, .int .i64 (k : Int)] rfl rfl 28 _ HF.out sizeF rfl (by kernel_rfl) ?_)
        refine bodyPost_ret (results_cell_row rfl _ _ w.heap.size 28 #[.int .i64 4, .int .i64 (k : Int)] (0, 0) _ rfl ?_ Tryd.underlying28 rfl sizeF) rfl (FRet.mk HRE.out (((HX.out.trans HXA.out).alloc _).setRow (Nat.le_refl _) _))
        exact setRow_heap _ _ _ _ _ _ HF.out
      | false =>
      have hrb : Tape.ruleB r = true := by have := hbb.out; simpa using this
      have HRB1 := Lib.hid hrb
      clear hrb hbb
      go_upto_region 9 with (fail)
      go_cut [83] (fun s70 wx => ∃ bb : Bool, s70 = .bool bb ∧ Hid (bb = ordB (prevR L k) r) ∧ Ext wa wx)
      case first =>
        rcases k with _ | j
        · go_quiet (fail)
          go_wp2
          go_meet
          exact ⟨false, by simp, Lib.hid (by simp [prevR, ordB]), (Ext.refl wa).drewN _⟩
        · obtain ⟨q, hq⟩ : ∃ q, L[j]? = some q := ⟨_, List.getElem?_eq_getElem (by rw [← HN.out]; omega)⟩
          have hpq := prevR_succ hq
          have HPQ := Lib.hid hpq
          obtain ⟨b', o', e', hqa⟩ := Rls.at_ (H1.out.ext (HX.out.trans HXA.out)) hq
          cases e'
          have q0 := hqa.st
          have q1 := hqa.sy
          have hjn : j < n := by omega
          have wj : IntKind.i64.wrap (j : Int) = (j : Int) := IntWalk.i64_in _ (by omega)
          have wj2 : IntKind.i64.wrap ((j : Int) + 1 - 1) = (j : Int) := by rw [Int.add_sub_cancel]; exact wj
          have j0 : (0 : Int) ≤ (j : Int) := by omega
          have j1 : (j : Int) < (n : Int) := by omega
          have kk : decide ((j : Int) + 1 > 0) = true := decide_eq_true (by omega)
          clear hpq hq hqa r2 r3 r4
          rcases Int.lt_trichotomy q.st r.st with h1 | h1 | h1
          · have d1 : decide (q.st > r.st) = false := by simp; omega
            have d2 : (q.st == r.st) = false := by simp; omega
            have HE : Hid (false = ordB (prevR L (j + 1)) r) := Lib.hid (by rw [HPQ.out]; exact ord_lt h1)
            clear h1
            go_quiet (fail)
            go_wp2
            go_meet
            exact ⟨false, rfl, HE, (Ext.refl wa).drewN _⟩
          · have d1 : decide (q.st > r.st) = false := by simp; omega
            have d2 : (q.st == r.st) = true := by simpa using h1
            by_cases h2 : q.sy ≥ r.sy
            · have d3 : decide (q.sy ≥ r.sy) = true := by simpa using h2
              have HE : Hid (true = ordB (prevR L (j + 1)) r) := Lib.hid (by rw [HPQ.out]; exact ord_ge h1 h2)
              clear h1 h2
              go_quiet (fail)
              go_wp2
              go_meet
              exact ⟨true, rfl, HE, (Ext.refl wa).drewN _⟩
            · have d3 : decide (q.sy ≥ r.sy) = false := by simp; omega
              have HE : Hid (false = ordB (prevR L (j + 1)) r) := Lib.hid (by rw [HPQ.out]; exact ord_eq h1 h2)
              clear h1 h2
              go_quiet (fail)
              go_wp2
              go_meet
              exact ⟨false, rfl, HE, (Ext.refl wa).drewN _⟩
          · have d1 : decide (q.st > r.st) = true := by simp; omega
            have HE : Hid (true = ordB (prevR L (j + 1)) r) := Lib.hid (by rw [HPQ.out]; exact ord_gt h1)
            clear h1
            go_quiet (fail)
            go_wp2
            go_meet
            exact ⟨true, rfl, HE, (Ext.refl wa).drewN _⟩
      obtain ⟨bb, rfl, hbb, hxb⟩ := hcut
      obtain ⟨wb, rfl⟩ : ∃ wb : World, wb = wc := ⟨_, rfl⟩
      have HXB := Lib.hid (HXA.out.trans hxb)
      have HBB := Lib.hid (ext_heap hxb HBA.out)
      have hltb : w.heap.size < wb.heap.size := (Array.getElem?_eq_some_iff.1 HBB.out).1
      clear hxb r0 r1 r2 r3 r4
      cases bb with
      | true =>
        have HRE : Hid ((11, (k : Int)) = R) := Lib.hid (by rw [← hsc.out, HST.out, if_neg (by rw [HRB1.out]; decide), if_pos hbb.out.symm])
        clear hbb
        have HF := Lib.hid (ext_heap ((Ext.refl wb).alloc (.cells #[.int .i64 11, .int .i64 (k : Int)] 28)) HBB.out)
        go_wp2_with (first | (go_at_call 14; refine (At_c _ _ _).mono ?_; rintro e w' ⟨rfl, rfl⟩) | refine wpList_store_row rfl 28 _ _ rfl w.heap.size #[.int .i64 11, .int .i64 (k : Int)] rfl rfl 28 _ HF.out sizeF rfl (by kernel_rfl) ?_)
        refine bodyPost_ret (results_cell_row rfl _ _ w.heap.size 28 #[.int .i64 11, .int .i64 (k : Int)] (0, 0) _ rfl ?_ Tryd.underlying28 rfl sizeF) rfl (FRet.mk HRE.out (((HX.out.trans HXB.out).alloc _).setRow (Nat.le_refl _) _))
        exact setRow_heap _ _ _ _ _ _ HF.out
      | false =>
        have HRE : Hid (scanR (k + 1) (prevR L (k + 1)) (L.drop (k + 1)) = R) := Lib.hid (by rw [← hsc.out, HST.out, if_neg (by rw [HRB1.out]; decide), if_neg (by rw [← hbb.out]; decide)])
        have HPN : Hid (∀ q, prevR L (k + 1) = some q → Tape.ruleB q = true) := Lib.hid (fun q hq => by rw [prevR_succ HRR.out] at hq; cases hq; exact HRB1.out)
        clear hbb
        go_wp2_with fail
        go_roundw
        case rel => exact ⟨k + 1, by omega, by go_num, HBB.out, HRE, HPN, HX.out.trans HXB.out⟩
        case measure => simp [intOf]; omega
    · have HRE : Hid ((0, 0) = R) := Lib.hid (by rw [← hsc.out, List.drop_eq_nil_of_le (by rw [← HN.out]; omega)]; rfl)
      go_wp2_with (refine wpList_store_row rfl 28 _ _ rfl w.heap.size #[.int .i64 0, .int .i64 0] rfl rfl 28 _ HB.out sizeF rfl (by kernel_rfl) ?_)
      refine bodyPost_ret (results_cell_row rfl _ _ w.heap.size 28 #[.int .i64 0, .int .i64 0] (0, 0) _ rfl ?_ Tryd.underlying28 rfl sizeF) rfl (FRet.mk HRE.out (HX.out.setRow (Nat.le_refl _) _))
      exact setRow_heap _ _ _ _ _ _ HB.out
end Go.Proofs.YtbaahbpianingaaDoor
