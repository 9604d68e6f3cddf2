import Derived.Test.YtbaahbpianingaaDoorMg10
import Derived.Test.YtbaahbpianingaaDoorMg11
import Derived.Test.YtbaahbpianingaaDoorMg12
import Derived.Laws.ResultCell
import Derived.Deep.DeepCutAuto
namespace Go.Proofs.YtbaahbpianingaaDoor
open Go Go.Proofs Go.RowKit
open Acc (Dk red five)
section
variable {w : World} {bm : Nat} {s : Dk} {cs : Array Value} {vo : Value}
theorem stop_with {n : Int} (he : Acc.stopF s = n) (hn : n ≠ 0) : Acc.stepF s = { s with stop := n } := by
  unfold Acc.stepF
  rw [he, if_neg hn]
theorem step_with (he : Acc.stopF s = 0) {K : Int} {a : Nat} (ho : Acc.opF s = K) (ha : Acc.addrF s = a) : Acc.stepF s = Acc.effF { s with at_ := s.at_ + 1 } K a := by
  unfold Acc.stepF
  rw [he, if_pos rfl, ho, ha]
theorem step_all (h : MachIs w bm s cs vo) (ok : OkSt s) (ht : Tabs w) (hb8 : 2 ≤ bm) : Calls Tryd.prog 44 #[.pointer (some ⟨bm, 0, none⟩)] w (EffPost w bm (Acc.stepF s)) := by
  by_cases c1 : s.at_ = 100
  · have he : Acc.stopF s = 3 := by unfold Acc.stopF; rw [if_pos c1]
    rw [stop_with he (by decide)]
    exact stop_at h c1
  have hat := ok.ok.at_
  obtain ⟨i, hi0⟩ : ∃ i : Nat, s.at_ = i := ⟨s.at_.toNat, by omega⟩
  have hi : i < 100 := by omega
  obtain ⟨W, hW⟩ : ∃ W, Acc.wordAt s s.at_ = W := ⟨_, rfl⟩
  have hw : Acc.wordAt s i = W := by rw [← hi0]; exact hW
  have w5 := Acc.five_iff.1 (Acc.word_five ok.ok s.at_)
  rw [hW] at w5
  by_cases c2 : W < 0 ∨ 20000 ≤ W ∨ 18 ≤ Acc.opF s
  · have he : Acc.stopF s = 2 := by unfold Acc.stopF; rw [if_neg c1, hW, if_pos c2]
    rw [stop_with he (by decide)]
    refine stop_bad h i hi hi0 W hw w5 ?_
    by_cases q1 : W < 0
    · exact .inl q1
    by_cases q2 : 20000 ≤ W
    · exact .inr (.inl q2)
    refine .inr (.inr ⟨by omega, by omega, ?_⟩)
    have h18 : 18 ≤ Acc.opF s := by omega
    unfold Acc.opF at h18
    rw [hW, Int.tdiv_eq_ediv_of_nonneg (by omega), Int.tmod_eq_emod_of_nonneg (by omega)] at h18
    exact h18
  have w0 : 0 ≤ W := by omega
  have w1 : W < 20000 := by omega
  have hop : Acc.opF s = W / 100 % 100 := by
    unfold Acc.opF
    rw [hW, Int.tdiv_eq_ediv_of_nonneg w0, Int.tmod_eq_emod_of_nonneg (by omega)]
  have hlt : W / 100 % 100 < 18 := by rw [← hop]; omega
  obtain ⟨r, hr⟩ : ∃ r : Nat, W % 100 = r := ⟨(W % 100).toNat, by omega⟩
  obtain ⟨z, hz⟩ : ∃ z, Acc.addrF s = z := ⟨_, rfl⟩
  have hA : W < 10000 ∧ (r : Int) = z ∨ 10000 ≤ W ∧ (r : Int) + s.x = z := by
    have hz2 := hz
    unfold Acc.addrF at hz2
    rw [hW, Int.tmod_eq_emod_of_nonneg w0, hr] at hz2
    by_cases q : 10000 ≤ W
    · rw [if_pos q] at hz2; exact .inr ⟨q, hz2⟩
    · rw [if_neg q] at hz2; exact .inl ⟨by omega, by omega⟩
  by_cases c3 : z < 0 ∨ 100 ≤ z
  · have he : Acc.stopF s = 3 := by unfold Acc.stopF; rw [if_neg c1, hW, if_neg c2, hz, if_pos c3]
    rw [stop_with he (by decide)]
    exact stop_addr h ok i hi hi0 W hw r z w0 w1 hlt hr hA c3
  obtain ⟨a, rfl⟩ : ∃ a : Nat, z = a := ⟨z.toNat, by omega⟩
  have ha : a < 100 := by omega
  by_cases c4 : Acc.opF s = 6 ∧ Acc.wordAt s a = 0
  · have he : Acc.stopF s = 6 := by unfold Acc.stopF; rw [if_neg c1, hW, if_neg c2, hz, if_neg c3, if_pos c4]
    rw [stop_with he (by decide)]
    exact stop_div h ok i hi hi0 W hw a ha r w0 w1 (by rw [← hop]; exact c4.1) hr hA c4.2
  have ho := ok.ok.output
  by_cases c5 : Acc.opF s = 14 ∧ 1000 < s.output.length + (Acc.lineF s.a).length
  · have he : Acc.stopF s = 7 := by unfold Acc.stopF; rw [if_neg c1, hW, if_neg c2, hz, if_neg c3, if_neg c4, if_pos c5]
    rw [stop_with he (by decide)]
    exact stop_full h ok ht i hi hi0 W hw a ha r w0 w1 (by rw [← hop]; exact c5.1) hr hA ho c5.2
  have he : Acc.stopF s = 0 := by unfold Acc.stopF; rw [if_neg c1, hW, if_neg c2, hz, if_neg c3, if_neg c4, if_neg c5]
  have hA2 : W < 10000 ∧ r = a ∨ 10000 ≤ W ∧ (r : Int) + s.x = a := by omega
  have h18 : Acc.opF s = 0 ∨ Acc.opF s = 1 ∨ Acc.opF s = 2 ∨ Acc.opF s = 3 ∨ Acc.opF s = 4 ∨ Acc.opF s = 5 ∨ Acc.opF s = 6 ∨ Acc.opF s = 7 ∨ Acc.opF s = 8 ∨ Acc.opF s = 9 ∨ Acc.opF s = 10 ∨ Acc.opF s = 11 ∨ Acc.opF s = 12 ∨ Acc.opF s = 13 ∨ Acc.opF s = 14 ∨ Acc.opF s = 15 ∨ Acc.opF s = 16 ∨ Acc.opF s = 17 := by omega
  rcases h18 with h18 | h18 | h18 | h18 | h18 | h18 | h18 | h18 | h18 | h18 | h18 | h18 | h18 | h18 | h18 | h18 | h18 | h18
  · rw [step_with he h18 hz]; exact step_op0 h ok i r a hi hi0 W hw w0 w1 (by rw [← hop]; exact h18) hr ha hA2
  · rw [step_with he h18 hz]; exact step_op1 h ok i r a hi hi0 W hw w0 w1 (by rw [← hop]; exact h18) hr ha hA2
  · rw [step_with he h18 hz]; exact step_op2 h ok i r a hi hi0 W hw w0 w1 (by rw [← hop]; exact h18) hr ha hA2
  · rw [step_with he h18 hz]; exact step_op3 h ok i r a hi hi0 W hw w0 w1 (by rw [← hop]; exact h18) hr ha hA2
  · rw [step_with he h18 hz]; exact step_op4 h ok i r a hi hi0 W hw w0 w1 (by rw [← hop]; exact h18) hr ha hA2
  · rw [step_with he h18 hz]; exact step_op5 h ok i r a hi hi0 W hw w0 w1 (by rw [← hop]; exact h18) hr ha hA2
  · rw [step_with he h18 hz]; exact step_op6 h ok i r a hi hi0 W hw w0 w1 (by rw [← hop]; exact h18) hr ha hA2 (fun q => c4 ⟨h18, q⟩)
  · rw [step_with he h18 hz]; exact step_op7 h ok i r a hi hi0 W hw w0 w1 (by rw [← hop]; exact h18) hr ha hA2
  · rw [step_with he h18 hz]; exact step_op8 h ok i r a hi hi0 W hw w0 w1 (by rw [← hop]; exact h18) hr ha hA2
  · rw [step_with he h18 hz]; exact step_op9 h ok i r a hi hi0 W hw w0 w1 (by rw [← hop]; exact h18) hr ha hA2
  · rw [step_with he h18 hz]; exact step_op10 h ok i r a hi hi0 W hw w0 w1 (by rw [← hop]; exact h18) hr ha hA2
  · rw [step_with he h18 hz]; exact step_op11 h ok i r a hi hi0 W hw w0 w1 (by rw [← hop]; exact h18) hr ha hA2
  · rw [step_with he h18 hz]; exact step_op12 h ok i r a hi hi0 W hw w0 w1 (by rw [← hop]; exact h18) hr ha hA2
  · rw [step_with he h18 hz]; exact step_op13 h ok i r a hi hi0 W hw w0 w1 (by rw [← hop]; exact h18) hr ha hA2
  · rw [step_with he h18 hz]; exact step_op14 h ok ht hb8 i r a hi hi0 W hw w0 w1 (by rw [← hop]; exact h18) hr ha hA2 (Nat.le_of_not_lt fun q => c5 ⟨h18, q⟩)
  · rw [step_with he h18 hz]; exact step_op15 h ok i r a hi hi0 W hw w0 w1 (by rw [← hop]; exact h18) hr ha hA2
  · rw [step_with he h18 hz]; exact step_op16 h ok i r a hi hi0 W hw w0 w1 (by rw [← hop]; exact h18) hr ha hA2
  · rw [step_with he h18 hz]; exact step_op17 h ok i r a hi hi0 W hw w0 w1 (by rw [← hop]; exact h18) hr ha hA2
end
end Go.Proofs.YtbaahbpianingaaDoor
namespace Go.Proofs.YtbaahbpianingaaDoor
open Go Go.Proofs Go.RowKit
open Acc (Dk red five)
set_option maxHeartbeats 4000000
set_option maxRecDepth 100000
def fAgg (p : Int × Int) : Value := .agg #[.int .i64 p.1, .int .i64 p.2]
def FRet (w : World) (p : Int × Int) (e : Ending) (w' : World) : Prop := e = .returned (fAgg p) ∧ Ext w w'
theorem FRet.mk {w w' : World} {p q : Int × Int} (h : q = p) (x : Ext w w') : FRet w p (.returned (fAgg q)) w' := ⟨by rw [h], x⟩
/-- The fault of words. -/
def faultW (l : List Int) : Int × Int := if 100 < l.length then (2, -1) else if 0 ≤ badI l then (4, badI l) else (0, 0)
/-- The fault of a state. -/
def faultD (s : Dk) : Int × Int :=
  if 0 ≤ badI s.words then (4, badI s.words)
  else if s.at_ < 0 ∨ 100 < s.at_ ∨ 0 ≤ badI [s.a, s.q, s.x] ∨ s.stop < 0 ∨ 7 < s.stop then (4, -1)
  else if 1000 < s.input.length ∨ 1000 < s.output.length then (3, -1)
  else (0, 0)
theorem badWord_q (A : Option Addr) (l : List Int) (q c : Nat) (w : World) (hq : l.length = q) (hl : q ≤ maxLen) (h1 : Sl w .i64 A l) :
    Calls Tryd.prog 45 #[.slice A q c] w fun e w' => e = .returned (.int .i64 (badI l)) ∧ w = w' := by
  subst hq
  exact badWord_c A l c w hl h1
theorem sl_of_cells {w : World} {g : Nat} {cs : Array Value} {t : TypeId} {fr : Nat × Nat} {l : List Int} (hg : w.heap[g]? = some (.cells cs t fr)) (h : ∀ (i : Nat) (x : Int), l[i]? = some x → cs[i]? = some (Value.int .i64 x)) : Sl w .i64 (some ⟨g, 0, none⟩) l :=
  Sl.mk fun i x hx => ⟨_, rfl, by
    have : (⟨g, 0, none⟩ : Addr).add i = ⟨g, i, none⟩ := by unfold Addr.add; split <;> simp_all
    rw [this, cell_of_row w g i cs t fr hg]
    exact h i x hx⟩
theorem words_sl {w W : World} {cs : Array Value} {s : Dk} {g : Nat} {t : TypeId} {fr : Nat × Nat} (h : DkIs w cs s) (hg : W.heap[g]? = some (.cells cs t fr)) : Sl W .i64 (some ⟨g, 0, none⟩) s.words := by
  refine sl_of_cells hg fun i x hx => ?_
  have hl := (List.getElem?_eq_some_iff.1 hx).1
  rw [h.words i (by rw [← h.wf.len]; exact hl), hx]
  rfl
theorem three_sl {W : World} {g : Nat} {a q x : Int} {t : TypeId} {fr : Nat × Nat} (hg : W.heap[g]? = some (.cells #[.int .i64 a, .int .i64 q, .int .i64 x] t fr)) : Sl W .i64 (some ⟨g, 0, none⟩) [a, q, x] := by
  refine sl_of_cells hg fun i y hy => ?_
  match i, hy with
  | 0, hy => cases hy; rfl
  | 1, hy => cases hy; rfl
  | 2, hy => cases hy; rfl
theorem heap_alloc3_new (w : World) (a b c : Obj) : (((w.alloc a).alloc b).alloc c).heap[w.heap.size + 2]? = some c := by have := heap_alloc2_new (w.alloc a) b c; simpa using this
theorem checkWords_c (A : Option Addr) (l : List Int) (c : Nat) (w : World) (hl : l.length ≤ maxLen) (h1 : Sl w .i64 A l) : Calls Tryd.prog 39 #[.slice A l.length c] w (FRet w (faultW l)) := by
  have HI := Lib.hid (fun W (hx : Ext w W) => badWord_c A l c W hl (h1.ext hx))
  unfold maxLen at hl
  unfold faultW
  clear h1
  generalize badI l = b at *
  by_cases h1 : 100 < l.length
  · rw [if_pos h1]
    go_enter Tryd.func39, Tryd.ntmps39
    go_wp2_with (first | (go_at_call 40; refine (fault_c _ _ _).mono ?_; rintro e w' ⟨rfl, rfl⟩))
    exact bodyPost_ret (v := fAgg (2, -1)) (by simp [results, Tryd.results39, go_sem, fAgg]) rfl (FRet.mk (by first | rfl | (rw [if_pos (by assumption)]) | (rw [if_neg (by omega)])) (by repeat (first | exact Ext.refl _ | apply Ext.alloc)))
  · rw [if_neg h1]
    by_cases h2 : 0 ≤ b
    all_goals go_enter Tryd.func39, Tryd.ntmps39
    all_goals go_wp2_with (first | (go_at_call 40; refine (fault_c _ _ _).mono ?_; rintro e w' ⟨rfl, rfl⟩) | (go_at_call 45; refine (HI.out _ (by repeat (first | exact Ext.refl _ | apply Ext.alloc))).mono ?_; rintro e w' ⟨rfl, rfl⟩))
    · exact bodyPost_ret (v := fAgg (4, b)) (by simp [results, Tryd.results39, go_sem, fAgg]) rfl (FRet.mk (by first | rfl | (rw [if_pos (by assumption)]) | (rw [if_neg (by omega)])) (by repeat (first | exact Ext.refl _ | apply Ext.alloc)))
    · exact bodyPost_ret (v := fAgg (0, 0)) (by simp [results, Tryd.results39, go_sem, fAgg]) rfl (FRet.mk (by first | rfl | (rw [if_pos (by assumption)]) | (rw [if_neg (by omega)])) (by repeat (first | exact Ext.refl _ | apply Ext.alloc)))
theorem Valid_c (cs : Array Value) (s : Dk) (w : World) (h : DkIs w cs s) : Calls Tryd.prog 20 #[.agg cs] w (FRet w (faultD s)) := by
  obtain ⟨A5, c5, e5, l5, m5, -, -⟩ := h.input
  obtain ⟨A6, c6, e6, l6, m6, -, -⟩ := h.output
  have e0 := h.at_
  have e1 := h.a
  have e2 := h.q
  have e3 := h.x
  have e7 := h.stop
  have HW := Lib.hid (fun (W : World) (hg : W.heap[w.heap.size]? = some (.cells cs 25 (0, 0))) => badWord_q (some ⟨w.heap.size, 0, none⟩) s.words 100 100 W h.wf.len (by decide) (words_sl h hg))
  have HT := Lib.hid (fun (W : World) (g : Nat) (hg : W.heap[g]? = some (.cells #[.int .i64 s.a, .int .i64 s.q, .int .i64 s.x] 3 (0, 0))) => badWord_q (some ⟨g, 0, none⟩) [s.a, s.q, s.x] 3 3 W rfl (by decide) (three_sl hg))
  have HH3 := Lib.hid (heap_alloc3_new w (.cells cs 25) (.cells #[.int .i64 0, .int .i64 0] 28) (.cells #[.int .i64 s.a, .int .i64 s.q, .int .i64 s.x] 3))
  unfold maxLen at *
  unfold faultD
  clear h
  generalize badI s.words = b1 at *
  generalize badI [s.a, s.q, s.x] = b2 at *
  by_cases h1 : 0 ≤ b1
  · rw [if_pos h1]
    go_enter Tryd.func20, Tryd.ntmps20
    go_wp2_with (first | (go_at_call 40; refine (fault_c _ _ _).mono ?_; rintro e w' ⟨rfl, rfl⟩) | (go_at_call 45; refine (HW.out _ (heap_alloc2_old w _ _)).mono ?_; rintro e w' ⟨rfl, rfl⟩) | (go_at_call 45; refine (HT.out _ _ HH3.out).mono ?_; rintro e w' ⟨rfl, rfl⟩))
    exact bodyPost_ret (v := fAgg (4, b1)) (by simp [results, Tryd.results20, go_sem, fAgg]) rfl (FRet.mk rfl (by repeat (first | exact Ext.refl _ | apply Ext.alloc)))
  have g1 : b1 < 0 := by omega
  rw [if_neg h1]
  clear h1
  by_cases c0 : s.at_ < 0
  · rw [if_pos (by omega)]
    have t0 : decide (s.at_ < 0) = true := by simpa using c0
    go_enter Tryd.func20, Tryd.ntmps20
    go_wp2_with (first | (go_at_call 40; refine (fault_c _ _ _).mono ?_; rintro e w' ⟨rfl, rfl⟩) | (go_at_call 45; refine (HW.out _ (heap_alloc2_old w _ _)).mono ?_; rintro e w' ⟨rfl, rfl⟩) | (go_at_call 45; refine (HT.out _ _ HH3.out).mono ?_; rintro e w' ⟨rfl, rfl⟩))
    exact bodyPost_ret (v := fAgg (4, -1)) (by simp [results, Tryd.results20, go_sem, fAgg]) rfl (FRet.mk rfl (by repeat (first | exact Ext.refl _ | apply Ext.alloc)))
  have d0 : 0 ≤ s.at_ := by omega
  have t0 : decide (s.at_ < 0) = false := by simp; omega
  clear c0
  by_cases c1 : 100 < s.at_
  · rw [if_pos (by omega)]
    have t1 : decide (100 < s.at_) = true := by simpa using c1
    go_enter Tryd.func20, Tryd.ntmps20
    go_wp2_with (first | (go_at_call 40; refine (fault_c _ _ _).mono ?_; rintro e w' ⟨rfl, rfl⟩) | (go_at_call 45; refine (HW.out _ (heap_alloc2_old w _ _)).mono ?_; rintro e w' ⟨rfl, rfl⟩) | (go_at_call 45; refine (HT.out _ _ HH3.out).mono ?_; rintro e w' ⟨rfl, rfl⟩))
    exact bodyPost_ret (v := fAgg (4, -1)) (by simp [results, Tryd.results20, go_sem, fAgg]) rfl (FRet.mk rfl (by repeat (first | exact Ext.refl _ | apply Ext.alloc)))
  have d1 : s.at_ ≤ 100 := by omega
  have t1 : decide (100 < s.at_) = false := by simp; omega
  clear c1
  by_cases c2 : 0 ≤ b2
  · rw [if_pos (by omega)]
    have t2 : decide (0 ≤ b2) = true := by simpa using c2
    go_enter Tryd.func20, Tryd.ntmps20
    go_wp2_with (first | (go_at_call 40; refine (fault_c _ _ _).mono ?_; rintro e w' ⟨rfl, rfl⟩) | (go_at_call 45; refine (HW.out _ (heap_alloc2_old w _ _)).mono ?_; rintro e w' ⟨rfl, rfl⟩) | (go_at_call 45; refine (HT.out _ _ HH3.out).mono ?_; rintro e w' ⟨rfl, rfl⟩))
    exact bodyPost_ret (v := fAgg (4, -1)) (by simp [results, Tryd.results20, go_sem, fAgg]) rfl (FRet.mk rfl (by repeat (first | exact Ext.refl _ | apply Ext.alloc)))
  have d2 : b2 < 0 := by omega
  have t2 : decide (0 ≤ b2) = false := by simp; omega
  clear c2
  by_cases c3 : s.stop < 0
  · rw [if_pos (by omega)]
    have t3 : decide (s.stop < 0) = true := by simpa using c3
    go_enter Tryd.func20, Tryd.ntmps20
    go_wp2_with (first | (go_at_call 40; refine (fault_c _ _ _).mono ?_; rintro e w' ⟨rfl, rfl⟩) | (go_at_call 45; refine (HW.out _ (heap_alloc2_old w _ _)).mono ?_; rintro e w' ⟨rfl, rfl⟩) | (go_at_call 45; refine (HT.out _ _ HH3.out).mono ?_; rintro e w' ⟨rfl, rfl⟩))
    exact bodyPost_ret (v := fAgg (4, -1)) (by simp [results, Tryd.results20, go_sem, fAgg]) rfl (FRet.mk rfl (by repeat (first | exact Ext.refl _ | apply Ext.alloc)))
  have d3 : 0 ≤ s.stop := by omega
  have t3 : decide (s.stop < 0) = false := by simp; omega
  clear c3
  by_cases c4 : 7 < s.stop
  · rw [if_pos (by omega)]
    have t4 : decide (7 < s.stop) = true := by simpa using c4
    go_enter Tryd.func20, Tryd.ntmps20
    go_wp2_with (first | (go_at_call 40; refine (fault_c _ _ _).mono ?_; rintro e w' ⟨rfl, rfl⟩) | (go_at_call 45; refine (HW.out _ (heap_alloc2_old w _ _)).mono ?_; rintro e w' ⟨rfl, rfl⟩) | (go_at_call 45; refine (HT.out _ _ HH3.out).mono ?_; rintro e w' ⟨rfl, rfl⟩))
    exact bodyPost_ret (v := fAgg (4, -1)) (by simp [results, Tryd.results20, go_sem, fAgg]) rfl (FRet.mk rfl (by repeat (first | exact Ext.refl _ | apply Ext.alloc)))
  have d4 : s.stop ≤ 7 := by omega
  have t4 : decide (7 < s.stop) = false := by simp; omega
  clear c4
  rw [if_neg (by omega)]
  by_cases f0 : 1000 < s.input.length
  · rw [if_pos (by omega)]
    have v0 : decide ((1000 : Int) < (s.input.length : Int)) = true := by simp; omega
    go_enter Tryd.func20, Tryd.ntmps20
    go_wp2_with (first | (go_at_call 40; refine (fault_c _ _ _).mono ?_; rintro e w' ⟨rfl, rfl⟩) | (go_at_call 45; refine (HW.out _ (heap_alloc2_old w _ _)).mono ?_; rintro e w' ⟨rfl, rfl⟩) | (go_at_call 45; refine (HT.out _ _ HH3.out).mono ?_; rintro e w' ⟨rfl, rfl⟩))
    exact bodyPost_ret (v := fAgg (3, -1)) (by simp [results, Tryd.results20, go_sem, fAgg]) rfl (FRet.mk rfl (by repeat (first | exact Ext.refl _ | apply Ext.alloc)))
  have h0 : s.input.length ≤ 1000 := by omega
  have v0 : decide ((1000 : Int) < (s.input.length : Int)) = false := by simp; omega
  clear f0
  by_cases f1 : 1000 < s.output.length
  · rw [if_pos (by omega)]
    have v1 : decide ((1000 : Int) < (s.output.length : Int)) = true := by simp; omega
    go_enter Tryd.func20, Tryd.ntmps20
    go_wp2_with (first | (go_at_call 40; refine (fault_c _ _ _).mono ?_; rintro e w' ⟨rfl, rfl⟩) | (go_at_call 45; refine (HW.out _ (heap_alloc2_old w _ _)).mono ?_; rintro e w' ⟨rfl, rfl⟩) | (go_at_call 45; refine (HT.out _ _ HH3.out).mono ?_; rintro e w' ⟨rfl, rfl⟩))
    exact bodyPost_ret (v := fAgg (3, -1)) (by simp [results, Tryd.results20, go_sem, fAgg]) rfl (FRet.mk rfl (by repeat (first | exact Ext.refl _ | apply Ext.alloc)))
  have h1 : s.output.length ≤ 1000 := by omega
  have v1 : decide ((1000 : Int) < (s.output.length : Int)) = false := by simp; omega
  clear f1
  rw [if_neg (by omega)]
  go_enter Tryd.func20, Tryd.ntmps20
  go_wp2_with (first | (go_at_call 40; refine (fault_c _ _ _).mono ?_; rintro e w' ⟨rfl, rfl⟩) | (go_at_call 45; refine (HW.out _ (heap_alloc2_old w _ _)).mono ?_; rintro e w' ⟨rfl, rfl⟩) | (go_at_call 45; refine (HT.out _ _ HH3.out).mono ?_; rintro e w' ⟨rfl, rfl⟩))
  exact bodyPost_ret (v := fAgg (0, 0)) (by simp [results, Tryd.results20, go_sem, fAgg]) rfl (FRet.mk rfl (by repeat (first | exact Ext.refl _ | apply Ext.alloc)))
end Go.Proofs.YtbaahbpianingaaDoor
namespace Go.Proofs.YtbaahbpianingaaDoor
open Go Go.Proofs Go.RowKit
open Acc (Dk red five)
set_option maxHeartbeats 3200000
set_option maxRecDepth 100000
def dk0 : Dk := ⟨List.replicate 100 0, 0, 0, 0, 0, false, [], [], 0⟩
def zeroDk : Array Value := (Array.replicate 104 (.int .i64 0)) ++ #[.bool false, .slice none 0 0, .slice none 0 0, .int .i64 0]
theorem byt_nil : Byt [] := fun x hx => by simp at hx
theorem dk0_wf : DkWf dk0 := ⟨by simp [dk0], fun x hx => by simp [dk0] at hx; subst hx; exact ⟨by decide, by decide⟩, ⟨by decide, by decide⟩, ⟨by decide, by decide⟩, ⟨by decide, by decide⟩, ⟨by decide, by decide⟩, byt_nil, byt_nil, ⟨by decide, by decide⟩⟩
theorem slAt_nil (w : World) (k : IntKind) : SlAt w k (some (.slice none 0 0)) [] := ⟨none, 0, rfl, Nat.le_refl _, by simp [maxLen], fun _ => rfl, SlC.nil _ _⟩
theorem zero_is (w : World) : DkIs w zeroDk dk0 := by
  refine ⟨by simp [zeroDk], ?_, rfl, rfl, rfl, rfl, rfl, slAt_nil w _, slAt_nil w _, rfl, dk0_wf⟩
  intro i hi
  have hm : dk0.words[i]?.getD 0 = 0 := by
    show (List.replicate 100 (0 : Int))[i]?.getD 0 = 0
    rw [List.getElem?_replicate, if_pos hi]; rfl
  rw [hm, zeroDk, Array.getElem?_append_left (by simp; omega), Array.getElem?_replicate, if_pos (by omega)]
theorem foldl_sets : ∀ (l : List Value) (p : Nat) (acc : Array Value), p + l.length ≤ acc.size →
    ((l.zipIdx p).foldl (fun cs (x : Value × Nat) => cs.setIfInBounds (0 + x.2) x.1) acc).toList = acc.toList.take p ++ l ++ acc.toList.drop (p + l.length)
  | [], p, acc, h => by simp
  | v :: r, p, acc, h => by
    rw [List.zipIdx_cons, List.foldl_cons, foldl_sets r (p + 1) _ (by simp at h ⊢; omega)]
    simp only [List.length_cons] at h
    rw [Nat.zero_add, Array.toList_setIfInBounds]
    have hp : p < acc.toList.length := by rw [Array.length_toList]; omega
    rw [List.take_set, List.drop_set_of_lt (by omega), List.take_succ_eq_append_getElem hp]
    show (List.take p acc.toList ++ [acc.toList[p]]).set p v ++ r ++ List.drop (p + 1 + r.length) acc.toList = _
    rw [List.set_append_right _ _ (by simp; omega)]
    have : p - (acc.toList.take p).length = 0 := by simp; omega
    rw [this]
    simp only [List.set_cons_zero, List.append_assoc, List.cons_append, List.nil_append, List.length_cons]
    rw [Nat.add_assoc, Nat.add_comm 1 r.length]
theorem foldl_sets_all (cs z : Array Value) (h : z.size = cs.size) : cs.zipIdx.foldl (fun acc (x : Value × Nat) => acc.setIfInBounds (0 + x.2) x.1) z = cs := by
  apply Array.toList_inj.1
  rw [← Array.foldl_toList, Array.toList_zipIdx, foldl_sets cs.toList 0 z (by simp [h])]
  simp [h]
theorem run_build_machine (cs : Array Value) (h : cs.size = 108) (w : World) : (Instr.build 75 #[(0, .agg cs)]).run Tryd.prog w = .ok (.agg cs) w := by
  have hz : ∃ z, (zeroValue 75).run Tryd.prog w = .ok (.agg z) w ∧ z.size = 108 := ⟨zeroDk, by kernel_rfl, by decide⟩
  obtain ⟨z, hz, hzs⟩ := hz
  have hs : (sizeOf 25).run Tryd.prog w = .ok 108 w := by kernel_rfl
  simp only [Instr.build, Sem.run_bind, hz, Result.andThen_ok, run_underlying Tryd.underlying75]
  simp [Value.cells, hs, Instr.fill, h, hzs]
  have := foldl_sets_all cs z (by omega)
  simp only [Nat.zero_add] at this
  rw [show (108 : Nat) = cs.zipIdx.size from by simp [h]]
  exact this
def runG (s : Dk) (n : Int) : Dk × Int × (Int × Int) :=
  if faultD s = (0, 0) then (if 0 ≤ n ∧ n ≤ 60000 then ((Acc.runF n.toNat s).1, ((Acc.runF n.toNat s).2 : Int), (0, 0)) else (dk0, 0, (4, -2)))
  else (dk0, 0, faultD s)
/-- The state is read from these cells, and from blocks from B on, whatever the other blocks hold. -/
def DkFr (B : Nat) (w : World) (cs : Array Value) (s : Dk) : Prop := ∀ F : World, (∀ g, B ≤ g → g < w.heap.size → F.heap[g]? = w.heap[g]?) → DkIs F cs s
theorem DkFr.st {B : Nat} {w : World} {cs : Array Value} {s : Dk} (h : DkFr B w cs s) : DkIs w cs s := h w fun _ _ _ => rfl
def RunRet (w : World) (r : Dk × Int × (Int × Int)) (e : Ending) (w' : World) : Prop :=
  ∃ cs', e = .returned (.tuple #[.agg cs', .int .i64 r.2.1, fAgg r.2.2]) ∧ DkFr w.heap.size w' cs' r.1 ∧ Ext w w'
theorem results_run {P : Program} {fn : Func} {p u q : Tmp} {tp tq : TypeId} (h : fn.results = #[.cell p tp, .tmp u, .cell q tq]) (tmps : Array Value) (w : World) (g g' : Nat) (t t' : TypeId) (cs cs' : Array Value) (fr fr' : Nat × Nat) (d d' : TypeDesc)
    (hp : tmps.getD p undef = .pointer (some ⟨g, 0, none⟩)) (hg : w.heap[g]? = some (.cells cs t fr)) (hu : P.underlying tp = some d) (hd : (match d with | .struct _ | .array _ _ => true | _ => false) = true) (hi : (P.info? tp).map (·.size) = some cs.size)
    (hq : tmps.getD q undef = .pointer (some ⟨g', 0, none⟩)) (hg' : w.heap[g']? = some (.cells cs' t' fr')) (hu' : P.underlying tq = some d') (hd' : (match d' with | .struct _ | .array _ _ => true | _ => false) = true) (hi' : (P.info? tq).map (·.size) = some cs'.size) :
    (results fn tmps).run P w = .ok (.tuple #[.agg cs, tmps.getD u undef, .agg cs']) w := by
  have hp' : tmps[p]?.getD undef = .pointer (some ⟨g, 0, none⟩) := by simpa using hp
  have hq' : tmps[q]?.getD undef = .pointer (some ⟨g', 0, none⟩) := by simpa using hq
  simp [results, h, hp', hq', asAddr, run_loadVar_row w g t tp cs fr d hg hu hd hi, run_loadVar_row w g' t' tq cs' fr' d' hg' hu' hd' hi']
theorem sizeS : (Tryd.prog.info? 25).map (·.size) = some 108 := by kernel_rfl
theorem sizeF : (Tryd.prog.info? 28).map (·.size) = some 2 := by kernel_rfl
theorem sizeM : (Tryd.prog.info? 75).map (·.size) = some 108 := by kernel_rfl
theorem ext_heap {w w' : World} (h : Ext w w') {g : Nat} {o : Obj} (hg : w.heap[g]? = some o) : w'.heap[g]? = some o := by
  rw [h.block g (Array.getElem?_eq_some_iff.1 hg).1]; exact hg
theorem wpList_allocS {w : World} {ops : Array Oper} {rest : List Oper} {o : Oper} {a : Act} {Q : Exit → Act → World → Prop} (hgd : o.guard = none) (ho : o.op = .alloc 25)
    (h : wpList Tryd.prog ops Q rest (a.put o.dst (.pointer (some ⟨w.heap.size, 0, none⟩))) (w.alloc (.cells zeroDk 25))) : wpList Tryd.prog ops Q (o :: rest) a w := by
  refine wpList_plain hgd fun K hK => ?_
  have hr : (Instr.alloc 25 true (.tuple #[])).run Tryd.prog w = .ok (.pointer (some ⟨w.heap.size, 0, none⟩)) (w.alloc (.cells zeroDk 25)) := by kernel_rfl
  unfold Oper.wp execOp
  simp only [ho, Sem.run_bind, hr, Sem.run_pure, Result.andThen_ok]
  exact hK _ _ h
theorem wpList_buildS {w : World} {ops : Array Oper} {rest : List Oper} {o : Oper} {a : Act} {Q : Exit → Act → World → Prop} (hgd : o.guard = none) (ho : o.op = .build 25 #[])
    (h : wpList Tryd.prog ops Q rest (a.put o.dst (.agg zeroDk)) w) : wpList Tryd.prog ops Q (o :: rest) a w := by
  refine wpList_plain hgd fun K hK => ?_
  have hr : (Instr.build 25 #[]).run Tryd.prog w = .ok (.agg zeroDk) w := by kernel_rfl
  unfold Oper.wp execOp
  simp only [ho, List.map_toArray, List.map_nil, Sem.run_bind, hr, Sem.run_pure, Result.andThen_ok]
  exact hK _ _ h
theorem blk_cell {w : World} {g : Nat} {cs : Array Value} {t : TypeId} (h : w.heap[g]? = some (.cells cs t (0, 0))) (i : Nat) : w.cell? ⟨g, i, none⟩ = cs[i]? := cell_of_row w g i cs t (0, 0) h
theorem blk_frozen {w : World} {g : Nat} {cs : Array Value} {t : TypeId} (h : w.heap[g]? = some (.cells cs t (0, 0))) (i : Nat) : w.frozen? ⟨g, i, none⟩ = false := by simp [World.frozen?, h]
theorem zero_one : zeroDk.all (·.oneCell') = true := by kernel_rfl
/-- The three blocks that Run makes first. -/
structure Begun (w wx : World) (cs : Array Value) : Prop where
  g0 : wx.heap[w.heap.size]? = some (.cells cs 25 (0, 0))
  g1 : wx.heap[w.heap.size + 1]? = some (.cells zeroDk 25 (0, 0))
  g2 : wx.heap[w.heap.size + 2]? = some (.cells #[.int .i64 0, .int .i64 0] 28 (0, 0))
  x : Ext w wx
theorem begun_mk (w : World) (cs : Array Value) : Begun w (((w.alloc (.cells cs 25)).alloc (.cells zeroDk 25)).alloc (.cells #[.int .i64 0, .int .i64 0] 28)) cs := by
  refine ⟨?_, ?_, ?_, (((Ext.refl w).alloc _).alloc _).alloc _⟩
  · rw [Below.heap_alloc _ _ _ (by simp; omega), Below.heap_alloc _ _ _ (by simp)]; exact heap_alloc_new w _
  · rw [Below.heap_alloc _ _ _ (by simp)]; have := heap_alloc_new (w.alloc (.cells cs 25)) (.cells zeroDk 25); simpa using this
  · have := heap_alloc_new ((w.alloc (.cells cs 25)).alloc (.cells zeroDk 25)) (.cells #[.int .i64 0, .int .i64 0] 28)
    simpa using this
theorem Begun.ext {w wx w1 : World} {cs : Array Value} (h : Begun w wx cs) (e : Ext wx w1) : Begun w w1 cs := ⟨ext_heap e h.g0, ext_heap e h.g1, ext_heap e h.g2, h.x.trans e⟩
theorem Begun.lt {w wx : World} {cs : Array Value} (h : Begun w wx cs) : w.heap.size + 2 < wx.heap.size := (Array.getElem?_eq_some_iff.1 h.g2).1
theorem wpList_build_machine {w : World} {ops : Array Oper} {rest : List Oper} {o : Oper} {a : Act} {Q : Exit → Act → World → Prop} (hgd : o.guard = none) (x : Operand) (ho : o.op = .build 75 #[(0, x)]) (cs : Array Value) (hsz : cs.size = 108) (hx : a.eval x = .agg cs)
    (h : wpList Tryd.prog ops Q rest (a.put o.dst (.agg cs)) w) : wpList Tryd.prog ops Q (o :: rest) a w := by
  refine wpList_plain hgd fun K hK => ?_
  unfold Oper.wp execOp
  simp only [ho, List.map_toArray, List.map_cons, List.map_nil, hx, Sem.run_bind, run_build_machine cs hsz w, Sem.run_pure, Result.andThen_ok]
  exact hK _ _ h
end Go.Proofs.YtbaahbpianingaaDoor
