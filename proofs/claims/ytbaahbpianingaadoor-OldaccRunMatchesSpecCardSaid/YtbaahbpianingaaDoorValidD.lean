import Derived.Test.YtbaahbpianingaaDoorStepC
namespace Go.Proofs.YtbaahbpianingaaDoor
open Go Go.Proofs Go.RowKit
open Acc (Dk red five)
set_option maxHeartbeats 4000000
set_option maxRecDepth 100000
def fAgg (p : Int × Int) : Value := .agg #[.int .i64 p.1, .int .i64 p.2]
def FRet (w : World) (p : Int × Int) (e : Ending) (w' : World) : Prop := e = .returned (fAgg p) ∧ Ext w w'
theorem FRet.mk {w w' : World} {p q : Int × Int} (h : q = p) (x : Ext w w') : FRet w p (.returned (fAgg q)) w' := ⟨by rw [h], x⟩
/-- The fault of words. -/
def faultW (l : List Int) : Int × Int := if 100 < l.length then (2, -1) else if 0 ≤ badI l then (4, badI l) else (0, 0)
/-- The fault of a state. -/
def faultD (s : Dk) : Int × Int :=
  if 0 ≤ badI s.words then (4, badI s.words)
  else if s.at_ < 0 ∨ 100 < s.at_ ∨ 0 ≤ badI [s.a, s.q, s.x] ∨ s.stop < 0 ∨ 7 < s.stop then (4, -1)
  else if 1000 < s.input.length ∨ 1000 < s.output.length then (3, -1)
  else (0, 0)
theorem badWord_q (A : Option Addr) (l : List Int) (q c : Nat) (w : World) (hq : l.length = q) (hl : q ≤ maxLen) (h1 : Sl w .i64 A l) :
    Calls Tryd.prog 45 #[.slice A q c] w fun e w' => e = .returned (.int .i64 (badI l)) ∧ w = w' := by
  subst hq
  exact badWord_c A l c w hl h1
theorem sl_of_cells {w : World} {g : Nat} {cs : Array Value} {t : TypeId} {fr : Nat × Nat} {l : List Int} (hg : w.heap[g]? = some (.cells cs t fr)) (h : ∀ (i : Nat) (x : Int), l[i]? = some x → cs[i]? = some (Value.int .i64 x)) : Sl w .i64 (some ⟨g, 0, none⟩) l :=
  Sl.mk fun i x hx => ⟨_, rfl, by
    have : (⟨g, 0, none⟩ : Addr).add i = ⟨g, i, none⟩ := by unfold Addr.add; split <;> simp_all
    rw [this, cell_of_row w g i cs t fr hg]
    exact h i x hx⟩
theorem words_sl {w W : World} {cs : Array Value} {s : Dk} {g : Nat} {t : TypeId} {fr : Nat × Nat} (h : DkIs w cs s) (hg : W.heap[g]? = some (.cells cs t fr)) : Sl W .i64 (some ⟨g, 0, none⟩) s.words := by
  refine sl_of_cells hg fun i x hx => ?_
  have hl := (List.getElem?_eq_some_iff.1 hx).1
  rw [h.words i (by rw [← h.wf.len]; exact hl), hx]
  rfl
theorem three_sl {W : World} {g : Nat} {a q x : Int} {t : TypeId} {fr : Nat × Nat} (hg : W.heap[g]? = some (.cells #[.int .i64 a, .int .i64 q, .int .i64 x] t fr)) : Sl W .i64 (some ⟨g, 0, none⟩) [a, q, x] := by
  refine sl_of_cells hg fun i y hy => ?_
  match i, hy with
  | 0, hy => cases hy; rfl
  | 1, hy => cases hy; rfl
  | 2, hy => cases hy; rfl
theorem heap_alloc3_new (w : World) (a b c : Obj) : (((w.alloc a).alloc b).alloc c).heap[w.heap.size + 2]? = some c := by have := heap_alloc2_new (w.alloc a) b c; simpa using this
theorem checkWords_c (A : Option Addr) (l : List Int) (c : Nat) (w : World) (hl : l.length ≤ maxLen) (h1 : Sl w .i64 A l) : Calls Tryd.prog 39 #[.slice A l.length c] w (FRet w (faultW l)) := by
  have HI := Lib.hid (fun W (hx : Ext w W) => badWord_c A l c W hl (h1.ext hx))
  unfold maxLen at hl
  unfold faultW
  clear h1
  generalize badI l = b at *
  by_cases h1 : 100 < l.length
  · rw [if_pos h1]
    go_enter Tryd.func39, Tryd.ntmps39
    go_wp2_with (first | (go_at_call 40; refine (fault_c _ _ _).mono ?_; rintro e w' ⟨rfl, rfl⟩))
    exact bodyPost_ret (v := fAgg (2, -1)) (by simp [results, Tryd.results39, go_sem, fAgg]) rfl (FRet.mk (by first | rfl | (rw [if_pos (by assumption)]) | (rw [if_neg (by omega)])) (by repeat (first | exact Ext.refl _ | apply Ext.alloc)))
  · rw [if_neg h1]
    by_cases h2 : 0 ≤ b
    all_goals go_enter Tryd.func39, Tryd.ntmps39
    all_goals go_wp2_with (first | (go_at_call 40; refine (fault_c _ _ _).mono ?_; rintro e w' ⟨rfl, rfl⟩) | (go_at_call 45; refine (HI.out _ (by repeat (first | exact Ext.refl _ | apply Ext.alloc))).mono ?_; rintro e w' ⟨rfl, rfl⟩))
    · exact bodyPost_ret (v := fAgg (4, b)) (by simp [results, Tryd.results39, go_sem, fAgg]) rfl (FRet.mk (by first | rfl | (rw [if_pos (by assumption)]) | (rw [if_neg (by omega)])) (by repeat (first | exact Ext.refl _ | apply Ext.alloc)))
    · exact bodyPost_ret (v := fAgg (0, 0)) (by simp [results, Tryd.results39, go_sem, fAgg]) rfl (FRet.mk (by first | rfl | (rw [if_pos (by assumption)]) | (rw [if_neg (by omega)])) (by repeat (first | exact Ext.refl _ | apply Ext.alloc)))
theorem Valid_c (cs : Array Value) (s : Dk) (w : World) (h : DkIs w cs s) : Calls Tryd.prog 20 #[.agg cs] w (FRet w (faultD s)) := by
  obtain ⟨A5, c5, e5, l5, m5, -, -⟩ := h.input
  obtain ⟨A6, c6, e6, l6, m6, -, -⟩ := h.output
  have e0 := h.at_
  have e1 := h.a
  have e2 := h.q
  have e3 := h.x
  have e7 := h.stop
  have HW := Lib.hid (fun (W : World) (hg : W.heap[w.heap.size]? = some (.cells cs 25 (0, 0))) => badWord_q (some ⟨w.heap.size, 0, none⟩) s.words 100 100 W h.wf.len (by decide) (words_sl h hg))
  have HT := Lib.hid (fun (W : World) (g : Nat) (hg : W.heap[g]? = some (.cells #[.int .i64 s.a, .int .i64 s.q, .int .i64 s.x] 3 (0, 0))) => badWord_q (some ⟨g, 0, none⟩) [s.a, s.q, s.x] 3 3 W rfl (by decide) (three_sl hg))
  have HH3 := Lib.hid (heap_alloc3_new w (.cells cs 25) (.cells #[.int .i64 0, .int .i64 0] 28) (.cells #[.int .i64 s.a, .int .i64 s.q, .int .i64 s.x] 3))
  unfold maxLen at *
  unfold faultD
  clear h
  generalize badI s.words = b1 at *
  generalize badI [s.a, s.q, s.x] = b2 at *
  by_cases h1 : 0 ≤ b1
  · rw [if_pos h1]
    go_enter Tryd.func20, Tryd.ntmps20
    go_wp2_with (first | (go_at_call 40; refine (fault_c _ _ _).mono ?_; rintro e w' ⟨rfl, rfl⟩) | (go_at_call 45; refine (HW.out _ (heap_alloc2_old w _ _)).mono ?_; rintro e w' ⟨rfl, rfl⟩) | (go_at_call 45; refine (HT.out _ _ HH3.out).mono ?_; rintro e w' ⟨rfl, rfl⟩))
    exact bodyPost_ret (v := fAgg (4, b1)) (by simp [results, Tryd.results20, go_sem, fAgg]) rfl (FRet.mk rfl (by repeat (first | exact Ext.refl _ | apply Ext.alloc)))
  have g1 : b1 < 0 := by omega
  rw [if_neg h1]
  clear h1
  by_cases c0 : s.at_ < 0
  · rw [if_pos (by omega)]
    have t0 : decide (s.at_ < 0) = true := by simpa using c0
    go_enter Tryd.func20, Tryd.ntmps20
    go_wp2_with (first | (go_at_call 40; refine (fault_c _ _ _).mono ?_; rintro e w' ⟨rfl, rfl⟩) | (go_at_call 45; refine (HW.out _ (heap_alloc2_old w _ _)).mono ?_; rintro e w' ⟨rfl, rfl⟩) | (go_at_call 45; refine (HT.out _ _ HH3.out).mono ?_; rintro e w' ⟨rfl, rfl⟩))
    exact bodyPost_ret (v := fAgg (4, -1)) (by simp [results, Tryd.results20, go_sem, fAgg]) rfl (FRet.mk rfl (by repeat (first | exact Ext.refl _ | apply Ext.alloc)))
  have d0 : 0 ≤ s.at_ := by omega
  have t0 : decide (s.at_ < 0) = false := by simp; omega
  clear c0
  by_cases c1 : 100 < s.at_
  · rw [if_pos (by omega)]
    have t1 : decide (100 < s.at_) = true := by simpa using c1
    go_enter Tryd.func20, Tryd.ntmps20
    go_wp2_with (first | (go_at_call 40; refine (fault_c _ _ _).mono ?_; rintro e w' ⟨rfl, rfl⟩) | (go_at_call 45; refine (HW.out _ (heap_alloc2_old w _ _)).mono ?_; rintro e w' ⟨rfl, rfl⟩) | (go_at_call 45; refine (HT.out _ _ HH3.out).mono ?_; rintro e w' ⟨rfl, rfl⟩))
    exact bodyPost_ret (v := fAgg (4, -1)) (by simp [results, Tryd.results20, go_sem, fAgg]) rfl (FRet.mk rfl (by repeat (first | exact Ext.refl _ | apply Ext.alloc)))
  have d1 : s.at_ ≤ 100 := by omega
  have t1 : decide (100 < s.at_) = false := by simp; omega
  clear c1
  by_cases c2 : 0 ≤ b2
  · rw [if_pos (by omega)]
    have t2 : decide (0 ≤ b2) = true := by simpa using c2
    go_enter Tryd.func20, Tryd.ntmps20
    go_wp2_with (first | (go_at_call 40; refine (fault_c _ _ _).mono ?_; rintro e w' ⟨rfl, rfl⟩) | (go_at_call 45; refine (HW.out _ (heap_alloc2_old w _ _)).mono ?_; rintro e w' ⟨rfl, rfl⟩) | (go_at_call 45; refine (HT.out _ _ HH3.out).mono ?_; rintro e w' ⟨rfl, rfl⟩))
    exact bodyPost_ret (v := fAgg (4, -1)) (by simp [results, Tryd.results20, go_sem, fAgg]) rfl (FRet.mk rfl (by repeat (first | exact Ext.refl _ | apply Ext.alloc)))
  have d2 : b2 < 0 := by omega
  have t2 : decide (0 ≤ b2) = false := by simp; omega
  clear c2
  by_cases c3 : s.stop < 0
  · rw [if_pos (by omega)]
    have t3 : decide (s.stop < 0) = true := by simpa using c3
    go_enter Tryd.func20, Tryd.ntmps20
    go_wp2_with (first | (go_at_call 40; refine (fault_c _ _ _).mono ?_; rintro e w' ⟨rfl, rfl⟩) | (go_at_call 45; refine (HW.out _ (heap_alloc2_old w _ _)).mono ?_; rintro e w' ⟨rfl, rfl⟩) | (go_at_call 45; refine (HT.out _ _ HH3.out).mono ?_; rintro e w' ⟨rfl, rfl⟩))
    exact bodyPost_ret (v := fAgg (4, -1)) (by simp [results, Tryd.results20, go_sem, fAgg]) rfl (FRet.mk rfl (by repeat (first | exact Ext.refl _ | apply Ext.alloc)))
  have d3 : 0 ≤ s.stop := by omega
  have t3 : decide (s.stop < 0) = false := by simp; omega
  clear c3
  by_cases c4 : 7 < s.stop
  · rw [if_pos (by omega)]
    have t4 : decide (7 < s.stop) = true := by simpa using c4
    go_enter Tryd.func20, Tryd.ntmps20
    go_wp2_with (first | (go_at_call 40; refine (fault_c _ _ _).mono ?_; rintro e w' ⟨rfl, rfl⟩) | (go_at_call 45; refine (HW.out _ (heap_alloc2_old w _ _)).mono ?_; rintro e w' ⟨rfl, rfl⟩) | (go_at_call 45; refine (HT.out _ _ HH3.out).mono ?_; rintro e w' ⟨rfl, rfl⟩))
    exact bodyPost_ret (v := fAgg (4, -1)) (by simp [results, Tryd.results20, go_sem, fAgg]) rfl (FRet.mk rfl (by repeat (first | exact Ext.refl _ | apply Ext.alloc)))
  have d4 : s.stop ≤ 7 := by omega
  have t4 : decide (7 < s.stop) = false := by simp; omega
  clear c4
  rw [if_neg (by omega)]
  by_cases f0 : 1000 < s.input.length
  · rw [if_pos (by omega)]
    have v0 : decide ((1000 : Int) < (s.input.length : Int)) = true := by simp; omega
    go_enter Tryd.func20, Tryd.ntmps20
    go_wp2_with (first | (go_at_call 40; refine (fault_c _ _ _).mono ?_; rintro e w' ⟨rfl, rfl⟩) | (go_at_call 45; refine (HW.out _ (heap_alloc2_old w _ _)).mono ?_; rintro e w' ⟨rfl, rfl⟩) | (go_at_call 45; refine (HT.out _ _ HH3.out).mono ?_; rintro e w' ⟨rfl, rfl⟩))
    exact bodyPost_ret (v := fAgg (3, -1)) (by simp [results, Tryd.results20, go_sem, fAgg]) rfl (FRet.mk rfl (by repeat (first | exact Ext.refl _ | apply Ext.alloc)))
  have h0 : s.input.length ≤ 1000 := by omega
  have v0 : decide ((1000 : Int) < (s.input.length : Int)) = false := by simp; omega
  clear f0
  by_cases f1 : 1000 < s.output.length
  · rw [if_pos (by omega)]
    have v1 : decide ((1000 : Int) < (s.output.length : Int)) = true := by simp; omega
    go_enter Tryd.func20, Tryd.ntmps20
    go_wp2_with (first | (go_at_call 40; refine (fault_c _ _ _).mono ?_; rintro e w' ⟨rfl, rfl⟩) | (go_at_call 45; refine (HW.out _ (heap_alloc2_old w _ _)).mono ?_; rintro e w' ⟨rfl, rfl⟩) | (go_at_call 45; refine (HT.out _ _ HH3.out).mono ?_; rintro e w' ⟨rfl, rfl⟩))
    exact bodyPost_ret (v := fAgg (3, -1)) (by simp [results, Tryd.results20, go_sem, fAgg]) rfl (FRet.mk rfl (by repeat (first | exact Ext.refl _ | apply Ext.alloc)))
  have h1 : s.output.length ≤ 1000 := by omega
  have v1 : decide ((1000 : Int) < (s.output.length : Int)) = false := by simp; omega
  clear f1
  rw [if_neg (by omega)]
  go_enter Tryd.func20, Tryd.ntmps20
  go_wp2_with (first | (go_at_call 40; refine (fault_c _ _ _).mono ?_; rintro e w' ⟨rfl, rfl⟩) | (go_at_call 45; refine (HW.out _ (heap_alloc2_old w _ _)).mono ?_; rintro e w' ⟨rfl, rfl⟩) | (go_at_call 45; refine (HT.out _ _ HH3.out).mono ?_; rintro e w' ⟨rfl, rfl⟩))
  exact bodyPost_ret (v := fAgg (0, 0)) (by simp [results, Tryd.results20, go_sem, fAgg]) rfl (FRet.mk rfl (by repeat (first | exact Ext.refl _ | apply Ext.alloc)))
end Go.Proofs.YtbaahbpianingaaDoor
