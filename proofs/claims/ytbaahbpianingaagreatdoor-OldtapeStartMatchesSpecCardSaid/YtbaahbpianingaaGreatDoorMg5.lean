import Derived.Test.YtbaahbpianingaaGreatDoorMg4
namespace Go.Proofs.YtbaahbpianingaaGreatDoor
open Go Go.Proofs Go.RowKit
open Tape (Rule Ts)
set_option maxHeartbeats 6400000
set_option maxRecDepth 100000
theorem sizeR : (Tryz.prog.info? 54).map (·.size) = some 5 := by kernel_rfl
theorem run_loadVar_cells {P : Program} {w : World} (g o : Nat) (ty : TypeId) (d : TypeDesc) (xs : List Value) (hx : ∀ i u, xs[i]? = some u → w.cell? ⟨g, o + i, none⟩ = some u)
    (hu : P.underlying ty = some d) (hd : (match d with | .struct _ | .array _ _ => true | _ => false) = true) (hi : (P.info? ty).map (·.size) = some xs.length) :
    (loadVar ty ⟨g, o, none⟩).run P w = .ok (.agg xs.toArray) w := by
  have hl : (loadCells ⟨g, o, none⟩ xs.length).run P w = .ok xs.toArray w :=
    run_loadCells_list (P := P) w ⟨g, o, none⟩ xs (fun j v hv => by rw [add_off]; exact hx j v hv)
  cases hq : P.info? ty with
  | none => simp [hq] at hi
  | some i =>
    have hs : i.size = xs.length := by simpa [hq] using hi
    have hagg : (isAgg ty).run P w = .ok true w := by
      unfold isAgg
      rw [Sem.run_bind, run_underlying hu w]
      cases d <;> simp_all
    simp [loadVar, Sem.run_bind, hagg, sizeOf, typeInfo, hq, hs, hl]
theorem wpList_load_cells {P : Program} {w : World} {ops : Array Oper} {rest : List Oper} {o : Oper} {a : Act} {Q : Exit → Act → World → Prop} (hw : Region.wanted o (yielded ops a.tmps) = true) (ty : TypeId) (x : Operand) (ho : o.op = .load ty x)
    (g f : Nat) (hx : a.eval x = .pointer (some ⟨g, f, none⟩)) (d : TypeDesc) (xs : List Value) (hxs : ∀ i u, xs[i]? = some u → w.cell? ⟨g, f + i, none⟩ = some u)
    (hu : P.underlying ty = some d) (hd : (match d with | .struct _ | .array _ _ => true | _ => false) = true) (hi : (P.info? ty).map (·.size) = some xs.length)
    (h : wpList P ops Q rest (a.put o.dst (.agg xs.toArray)) w) : wpList P ops Q (o :: rest) a w := by
  refine wpList_step fun K hK => ?_
  rw [if_pos hw]
  unfold Oper.wp execOp
  simp only [ho, hx, Instr.loadAt, Instr.sureAddr, Sem.run_bind, Sem.run_pure, Result.andThen_ok, run_loadVar_cells g f ty d xs hxs hu hd hi]
  exact hK _ _ h
theorem ruleV_one (r : Rule) : (ruleV r).toArray.all (·.oneCell') = true := by simp [ruleV, Value.oneCell']
theorem RuleAt.cells {w : World} {b o : Nat} {r : Rule} (h : RuleAt w b o r) : ∀ i u, (ruleV r)[i]? = some u → w.cell? ⟨b, o + i, none⟩ = some u := by
  intro i u hu
  match i, hu with
  | 0, hu => cases hu; exact h.st
  | 1, hu => cases hu; exact h.sy
  | 2, hu => cases hu; exact h.wr
  | 3, hu => cases hu; exact h.mv
  | 4, hu => cases hu; exact h.nx
  | n + 5, hu => simp [ruleV] at hu
theorem checkRules_c (A : Option Addr) (L : List Rule) (c : Nat) (w : World) (hl : L.length ≤ maxLen) (h1 : Rls w A L) (hwf : ∀ r ∈ L, RuleWf r) :
    Calls Tryz.prog 23 #[.slice A L.length c] w (FRet w (faultR L)) := by
  unfold maxLen at hl
  obtain ⟨n, hn⟩ : ∃ n, n = L.length := ⟨_, rfl⟩
  rw [← hn] at hl ⊢
  have HN := Lib.hid hn
  have HWF := Lib.hid hwf
  have H1 := Lib.hid h1
  clear hwf h1
  by_cases h2 : 64 < n
  · have hf : (2, -1) = faultR L := by unfold faultR; rw [if_pos (by rw [← hn]; exact h2)]
    have HF := Lib.hid hf
    clear hf hn
    go_enter Tryz.func23, Tryz.ntmps23
    go_wp2_with (go_at_call 24; refine (tfault_c _ _ _).mono ?_; rintro e w' ⟨rfl, rfl⟩)
    exact bodyPost_ret (v := fAgg (2, -1)) (by simp [results, Tryz.results23, go_sem, fAgg]) rfl (FRet.mk HF.out (by repeat (first | exact Ext.refl _ | apply Ext.alloc)))
  · obtain ⟨R, hR⟩ : ∃ R, R = faultR L := ⟨_, rfl⟩
    have hs : scanR 0 (prevR L 0) (L.drop 0) = R := by rw [hR]; unfold faultR; rw [if_neg (by rw [← hn]; exact h2)]; rfl
    have HS := Lib.hid hs
    rw [← hR]
    clear hs hR hn
    go_enter Tryz.func23, Tryz.ntmps23
    go_wp2
    go_loopw [11] (fun t11 wx => ∃ k : Nat, k ≤ n ∧ t11 = .int .i64 k ∧ wx.heap[w.heap.size]? = some (.cells #[.int .i64 0, .int .i64 0] 27 (0, 0)) ∧ Hid (scanR k (prevR L k) (L.drop k) = R) ∧ Hid (∀ q, prevR L k = some q → Tape.ruleB q = true) ∧ Ext w wx) (fun t11 _ => n - (intOf t11).toNat)
    case atStart => exact ⟨0, Nat.zero_le _, rfl, heap_alloc_new w _, HS, Lib.hid (fun q hq => by cases hq), (Ext.refl w).alloc _⟩
    case round =>
    obtain ⟨k, hk, rfl, hb, hsc, hpv, hx⟩ := hrel
    have HB := Lib.hid hb
    have HX := Lib.hid hx
    have hltr : w.heap.size < wr.heap.size := (Array.getElem?_eq_some_iff.1 hb).1
    clear hb hx
    by_cases hlt : k < n
    · obtain ⟨r, hr⟩ : ∃ r, L[k]? = some r := ⟨_, List.getElem?_eq_getElem (by rw [← HN.out]; exact hlt)⟩
      obtain ⟨b, o, rfl, hra⟩ := Rls.at_ (H1.out.ext HX.out) hr
      have HRA := Lib.hid hra
      have HRR := Lib.hid hr
      have HST := Lib.hid (scan_step hr)
      clear hra hr
      go_upto_region 5 with (fail)
      go_cut [3, 4] (fun s3 s4 wx => s3 = .int .i64 k ∧ s4 = .pointer (some ⟨wr.heap.size, 0, none⟩) ∧ wx.heap[wr.heap.size]? = some (.cells (ruleV r).toArray 54 (0, 0)) ∧ Ext wr wx)
      case first =>
        have HZ := Lib.hid (heap_alloc_new wr (.cells #[.int .i64 0, .int .i64 0, .int .i64 0, .int .i64 0, .int .i64 0] 54))
        go_wp2_with (first | refine wpList_load_cells rfl 54 _ rfl b (o + k * 5) rfl _ (ruleV r) HRA.out.cells Tryz.underlying54 rfl sizeR ?_ | refine wpList_store_row rfl 54 _ _ rfl wr.heap.size (ruleV r).toArray rfl rfl 54 _ HZ.out sizeR rfl (ruleV_one r) ?_)
        go_meet
        exact ⟨rfl, rfl, setRow_heap _ _ _ _ _ _ HZ.out, ((Ext.refl wr).alloc _).setRow (Nat.le_refl _) _⟩
      obtain ⟨rfl, rfl, hbr, hxa⟩ := hcut
      obtain ⟨wa, rfl⟩ : ∃ wa : World, wa = wc := ⟨_, rfl⟩
      have HXA := Lib.hid hxa
      have HBA := Lib.hid (ext_heap hxa HB.out)
      have HRB := Lib.hid hbr
      have hlta : wr.heap.size < wa.heap.size := (Array.getElem?_eq_some_iff.1 hbr).1
      have r0 : wa.cell? ⟨wr.heap.size, 0, none⟩ = some (.int .i64 r.st) := blk_cell hbr 0
      have r1 : wa.cell? ⟨wr.heap.size, 1, none⟩ = some (.int .i64 r.sy) := blk_cell hbr 1
      have r2 : wa.cell? ⟨wr.heap.size, 2, none⟩ = some (.int .i64 r.wr) := blk_cell hbr 2
      have r3 : wa.cell? ⟨wr.heap.size, 3, none⟩ = some (.int .i64 r.mv) := blk_cell hbr 3
      have r4 : wa.cell? ⟨wr.heap.size, 4, none⟩ = some (.int .i64 r.nx) := blk_cell hbr 4
      clear hxa hbr
      go_upto_region 6 with (fail)
      go_cut [43] (fun s43 wx => ∃ bb : Bool, s43 = .bool bb ∧ Hid (bb = !Tape.ruleB r) ∧ wa = wx)
      case first =>
        have HRI := Lib.hid (ruleB_in r)
        cases q0 : inB r.st 0 15
        · go_wp2_with (go_at_call 37; refine (tin_c _ _ _ _).mono ?_; rintro e w' ⟨rfl, rfl⟩)
          go_meet
          exact ⟨true, by simp, Lib.hid (by rw [HRI.out, q0]; rfl), rfl⟩
        cases q1 : inB r.sy 0 3
        · go_wp2_with (go_at_call 37; refine (tin_c _ _ _ _).mono ?_; rintro e w' ⟨rfl, rfl⟩)
          go_meet
          exact ⟨true, by simp, Lib.hid (by rw [HRI.out, q0, q1]; rfl), rfl⟩
        cases q2 : inB r.wr 0 3
        · go_wp2_with (go_at_call 37; refine (tin_c _ _ _ _).mono ?_; rintro e w' ⟨rfl, rfl⟩)
          go_meet
          exact ⟨true, by simp, Lib.hid (by rw [HRI.out, q0, q1, q2]; rfl), rfl⟩
        cases q3 : inB r.mv (-1) 1
        · go_wp2_with (go_at_call 37; refine (tin_c _ _ _ _).mono ?_; rintro e w' ⟨rfl, rfl⟩)
          go_meet
          exact ⟨true, by simp, Lib.hid (by rw [HRI.out, q0, q1, q2, q3]; rfl), rfl⟩
        cases q4 : inB r.nx (-1) 15
        · go_wp2_with (go_at_call 37; refine (tin_c _ _ _ _).mono ?_; rintro e w' ⟨rfl, rfl⟩)
          go_meet
          exact ⟨true, by simp, Lib.hid (by rw [HRI.out, q0, q1, q2, q3, q4]; rfl), rfl⟩
        · go_wp2_with (go_at_call 37; refine (tin_c _ _ _ _).mono ?_; rintro e w' ⟨rfl, rfl⟩)
          go_meet
          exact ⟨false, by simp, Lib.hid (by rw [HRI.out, q0, q1, q2, q3, q4]; rfl), rfl⟩
      obtain ⟨bb, rfl, hbb, rfl⟩ := hcut
      cases bb with
      | true =>
        have hrb : Tape.ruleB r = false := by have := hbb.out; simpa using this
        have HRE : Hid ((4, (k : Int)) = R) := Lib.hid (by rw [← hsc.out, HST.out, if_pos hrb])
        clear hrb hbb
        have HF := Lib.hid (ext_heap ((Ext.refl wa).alloc (.cells #[.int .i64 4, .int .i64 (k : Int)] 27)) HBA.out)
        go_wp2_with (first | (go_at_call 24; refine (tfault_c _ _ _).mono ?_; rintro e w' ⟨rfl, rfl⟩) | refine wpList_store_row rfl 27 _ _ rfl w.heap.size #[.int .i64 4, .int .i64 (k : Int)] rfl rfl 27 _ HF.out sizeF rfl (by kernel_rfl) ?_)
        refine bodyPost_ret (results_cell_row rfl _ _ w.heap.size 27 #[.int .i64 4, .int .i64 (k : Int)] (0, 0) _ rfl ?_ Tryz.underlying27 rfl sizeF) rfl (FRet.mk HRE.out (((HX.out.trans HXA.out).alloc _).setRow (Nat.le_refl _) _))
        exact setRow_heap _ _ _ _ _ _ HF.out
      | false =>
      have hrb : Tape.ruleB r = true := by have := hbb.out; simpa using this
      have HRB1 := Lib.hid hrb
      clear hrb hbb
      go_upto_region 8 with (fail)
      go_cut [70] (fun s70 wx => ∃ bb : Bool, s70 = .bool bb ∧ Hid (bb = ordB (prevR L k) r) ∧ Ext wa wx)
      case first =>
        rcases k with _ | j
        · go_quiet (fail)
          go_wp2
          go_meet
          exact ⟨false, by simp, Lib.hid (by simp [prevR, ordB]), (Ext.refl wa).drewN _⟩
        · obtain ⟨q, hq⟩ : ∃ q, L[j]? = some q := ⟨_, List.getElem?_eq_getElem (by rw [← HN.out]; omega)⟩
          have hpq := prevR_succ hq
          have HBQ := Lib.hid (or_bef (hpv.out q hpq) HRB1.out)
          have HPQ := Lib.hid hpq
          obtain ⟨b', o', e', hqa⟩ := Rls.at_ (H1.out.ext (HX.out.trans HXA.out)) hq
          cases e'
          have q0 := hqa.st
          have q1 := hqa.sy
          have fq := rule_fits (hpv.out q hpq)
          have fr := rule_fits HRB1.out
          obtain ⟨a0, a1, a2, a3, -, -, -, -, -, -⟩ := fq
          obtain ⟨b0, b1, b2, b3, -, -, -, -, -, -⟩ := fr
          have w1 : IntKind.i64.wrap (r.st - q.st) = r.st - q.st := IntWalk.i64_in _ (by omega)
          have w2 : IntKind.i64.wrap (r.sy - q.sy) = r.sy - q.sy := IntWalk.i64_in _ (by omega)
          have hjn : j < n := by omega
          have wj : IntKind.i64.wrap (j : Int) = (j : Int) := IntWalk.i64_in _ (by omega)
          have wj2 : IntKind.i64.wrap ((j : Int) + 1 - 1) = (j : Int) := by rw [Int.add_sub_cancel]; exact wj
          have j0 : (0 : Int) ≤ (j : Int) := by omega
          have j1 : (j : Int) < (n : Int) := by omega
          clear hpq hq hqa
          go_region_held3 (fun w' => w'.cell? ⟨wr.heap.size, 0, none⟩ = some (.int .i64 r.st) ∧ w'.cell? ⟨wr.heap.size, 1, none⟩ = some (.int .i64 r.sy) ∧ w'.cell? ⟨b, o + j * 5, none⟩ = some (.int .i64 q.st) ∧ w'.cell? ⟨b, o + j * 5 + 1, none⟩ = some (.int .i64 q.sy)) (go_keep) ((go_at_call 45; refine (or_c wa.heap.size 0 (r.st - q.st) (r.sy - q.sy) _ (by simp) (by simp)).mono ?_; rintro e w' ⟨rfl, rfl⟩))
          all_goals go_wp2
          all_goals go_meet
          all_goals exact ⟨decide (orF (r.st - q.st) (r.sy - q.sy) ≤ 0), by first | rfl | simp, Lib.hid (by rw [HPQ.out, HBQ.out]; rfl), by repeat (first | exact Ext.refl _ | apply Ext.drew | apply Ext.alloc)⟩
      obtain ⟨bb, rfl, hbb, hxb⟩ := hcut
      obtain ⟨wb, rfl⟩ : ∃ wb : World, wb = wc := ⟨_, rfl⟩
      have HXB := Lib.hid (HXA.out.trans hxb)
      have HBB := Lib.hid (ext_heap hxb HBA.out)
      have hltb : w.heap.size < wb.heap.size := (Array.getElem?_eq_some_iff.1 HBB.out).1
      clear hxb r0 r1 r2 r3 r4
      cases bb with
      | true =>
        have HRE : Hid ((11, (k : Int)) = R) := Lib.hid (by rw [← hsc.out, HST.out, if_neg (by rw [HRB1.out]; decide), if_pos hbb.out.symm])
        clear hbb
        have HF := Lib.hid (ext_heap ((Ext.refl wb).alloc (.cells #[.int .i64 11, .int .i64 (k : Int)] 27)) HBB.out)
        go_wp2_with (first | (go_at_call 24; refine (tfault_c _ _ _).mono ?_; rintro e w' ⟨rfl, rfl⟩) | refine wpList_store_row rfl 27 _ _ rfl w.heap.size #[.int .i64 11, .int .i64 (k : Int)] rfl rfl 27 _ HF.out sizeF rfl (by kernel_rfl) ?_)
        refine bodyPost_ret (results_cell_row rfl _ _ w.heap.size 27 #[.int .i64 11, .int .i64 (k : Int)] (0, 0) _ rfl ?_ Tryz.underlying27 rfl sizeF) rfl (FRet.mk HRE.out (((HX.out.trans HXB.out).alloc _).setRow (Nat.le_refl _) _))
        exact setRow_heap _ _ _ _ _ _ HF.out
      | false =>
        have HRE : Hid (scanR (k + 1) (prevR L (k + 1)) (L.drop (k + 1)) = R) := Lib.hid (by rw [← hsc.out, HST.out, if_neg (by rw [HRB1.out]; decide), if_neg (by rw [← hbb.out]; decide)])
        have HPN : Hid (∀ q, prevR L (k + 1) = some q → Tape.ruleB q = true) := Lib.hid (fun q hq => by rw [prevR_succ HRR.out] at hq; cases hq; exact HRB1.out)
        clear hbb
        go_wp2_with fail
        go_roundw
        case rel => exact ⟨k + 1, by omega, by go_num, HBB.out, HRE, HPN, HX.out.trans HXB.out⟩
        case measure => simp [intOf]; omega
    · have HRE : Hid ((0, 0) = R) := Lib.hid (by rw [← hsc.out, List.drop_eq_nil_of_le (by rw [← HN.out]; omega)]; rfl)
      go_wp2_with (refine wpList_store_row rfl 27 _ _ rfl w.heap.size #[.int .i64 0, .int .i64 0] rfl rfl 27 _ HB.out sizeF rfl (by kernel_rfl) ?_)
      refine bodyPost_ret (results_cell_row rfl _ _ w.heap.size 27 #[.int .i64 0, .int .i64 0] (0, 0) _ rfl ?_ Tryz.underlying27 rfl sizeF) rfl (FRet.mk HRE.out (HX.out.setRow (Nat.le_refl _) _))
      exact setRow_heap _ _ _ _ _ _ HB.out
end Go.Proofs.YtbaahbpianingaaGreatDoor
