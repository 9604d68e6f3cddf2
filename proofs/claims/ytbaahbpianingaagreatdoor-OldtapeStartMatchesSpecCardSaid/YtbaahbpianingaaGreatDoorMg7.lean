import Derived.Test.YtbaahbpianingaaGreatDoorMg5
import Derived.Test.YtbaahbpianingaaGreatDoorMg2
import Derived.Test.YtbaahbpianingaaGreatDoorMg3
namespace Go.Proofs.YtbaahbpianingaaGreatDoor
open Go Go.Proofs Go.RowKit
open Tape (Rule Ts)
set_option maxHeartbeats 6400000
set_option maxRecDepth 100000
/-- The place of the first number that p holds of, or -1. -/
def idxP (p : Int → Bool) (l : List Int) : Int := match l.findIdx? p with | some i => (i : Int) | none => -1
def noneTo (p : Int → Bool) (l : List Int) (k : Nat) : Prop := ∀ i x, i < k → l[i]? = some x → p x = false
theorem noneTo_succ {p : Int → Bool} {l : List Int} {k : Nat} (h : noneTo p l k) {y : Int} (hy : l[k]? = some y) (h2 : p y = false) : noneTo p l (k + 1) := by
  intro i x hi hx
  by_cases e : i = k
  · subst e; rw [hx] at hy; cases hy; exact h2
  · exact h i x (by omega) hx
theorem idxP_some {p : Int → Bool} {l : List Int} {k : Nat} (h : noneTo p l k) {y : Int} (hy : l[k]? = some y) (h2 : p y = true) : idxP p l = k := by
  obtain ⟨h1, rfl⟩ := List.getElem?_eq_some_iff.1 hy
  unfold idxP
  have : l.findIdx? p = some k := by
    rw [List.findIdx?_eq_some_iff_getElem]
    refine ⟨h1, h2, fun j hj => ?_⟩
    have := h j _ hj (List.getElem?_eq_getElem (by omega))
    simpa using this
  rw [this]
theorem idxP_none {p : Int → Bool} {l : List Int} {k : Nat} (h : noneTo p l k) (h1 : l.length ≤ k) : idxP p l = -1 := by
  unfold idxP
  have : l.findIdx? p = none := by
    rw [List.findIdx?_eq_none_iff]
    intro x hx
    obtain ⟨i, hi, rfl⟩ := List.getElem_of_mem hx
    have := h i _ (by omega) (List.getElem?_eq_getElem hi)
    simpa using this
  rw [this]
def symB (n : Int) : Bool := inB n 0 3
def usedB (n : Int) : Bool := !(decide (n = 0))
theorem badSymbol1_c (n : Int) (w : World) : Calls Tryz.prog 47 #[.int .i64 n] w fun e w' => e = .returned (.bool (!symB n)) ∧ w = w' := by
  go_enter Tryz.func47, Tryz.ntmps47
  go_wp2_with (go_at_call 37; refine (tin_c _ _ _ _).mono ?_; rintro e w' ⟨rfl, rfl⟩)
  go_ret
  exact ⟨rfl, rfl⟩
theorem tape1_c (n : Int) (w : World) : Calls Tryz.prog 27 #[.int .i64 n] w fun e w' => e = .returned (.bool (usedB n)) ∧ w = w' := by
  go_enter Tryz.func27, Tryz.ntmps27
  go_wp2
  go_ret
  refine ⟨ret_bool ?_, rfl⟩
  unfold usedB
  by_cases h : n = 0 <;> simp [h]
theorem IndexBad_c (A : Option Addr) (l : List Int) (c : Nat) (w : World) (hl : l.length ≤ maxLen) (h1 : Sl w .i64 A l) :
    Calls Tryz.prog 28 #[.slice A l.length c, .func (.func 47) #[] #[]] w fun e w' => e = .returned (.int .i64 (idxP (fun n => !symB n) l)) ∧ w = w' := by
  unfold maxLen at hl
  obtain ⟨q, hq⟩ : ∃ q, q = l.length := ⟨_, rfl⟩
  rw [← hq] at hl ⊢
  have HQ := Lib.hid hq
  clear hq
  go_enter Tryz.func28, Tryz.ntmps28
  go_wp2
  go_loop [8] (fun i => ∃ k : Nat, k ≤ q ∧ i = .int .i64 k ∧ noneTo (fun n => !symB n) l k) (fun i => q - (intOf i).toNat)
  case atStart => exact ⟨0, Nat.zero_le _, rfl, fun i x hi => by omega⟩
  case round =>
    obtain ⟨k, hk, rfl, hr⟩ := hrel
    have HR := Lib.hid hr
    clear hr
    by_cases hlt : k < q
    · have hkl : k < l.length := by rw [← HQ.out]; exact hlt
      obtain ⟨b, o, x, rfl, hx, ha⟩ := h1.at2 hkl
      clear hkl
      cases hb : (!symB x) with
      | true =>
        have HF := Lib.hid (idxP_some HR.out hx.out hb)
        go_wp2_with (go_at_call 47; refine (badSymbol1_c _ _).mono ?_; rintro e w' ⟨rfl, rfl⟩; rw [hb])
        go_ret
        exact ⟨ret_int HF.out.symm, rfl⟩
      | false =>
        go_wp2_with (go_at_call 47; refine (badSymbol1_c _ _).mono ?_; rintro e w' ⟨rfl, rfl⟩; rw [hb])
        go_round
        case rel => exact ⟨k + 1, by omega, by go_num, noneTo_succ HR.out hx.out hb⟩
        case measure => simp [intOf]; omega
    · have HF := Lib.hid (idxP_none HR.out (by rw [← HQ.out]; omega))
      go_wp2
      go_ret
      exact ⟨ret_int HF.out.symm, rfl⟩
theorem IndexUsed_c (A : Option Addr) (l : List Int) (c : Nat) (w : World) (hl : l.length ≤ maxLen) (h1 : Sl w .i64 A l) :
    Calls Tryz.prog 28 #[.slice A l.length c, .func (.func 27) #[] #[]] w fun e w' => e = .returned (.int .i64 (idxP usedB l)) ∧ w = w' := by
  unfold maxLen at hl
  obtain ⟨q, hq⟩ : ∃ q, q = l.length := ⟨_, rfl⟩
  rw [← hq] at hl ⊢
  have HQ := Lib.hid hq
  clear hq
  go_enter Tryz.func28, Tryz.ntmps28
  go_wp2
  go_loop [8] (fun i => ∃ k : Nat, k ≤ q ∧ i = .int .i64 k ∧ noneTo usedB l k) (fun i => q - (intOf i).toNat)
  case atStart => exact ⟨0, Nat.zero_le _, rfl, fun i x hi => by omega⟩
  case round =>
    obtain ⟨k, hk, rfl, hr⟩ := hrel
    have HR := Lib.hid hr
    clear hr
    by_cases hlt : k < q
    · have hkl : k < l.length := by rw [← HQ.out]; exact hlt
      obtain ⟨b, o, x, rfl, hx, ha⟩ := h1.at2 hkl
      clear hkl
      cases hb : (usedB x) with
      | true =>
        have HF := Lib.hid (idxP_some HR.out hx.out hb)
        go_wp2_with (go_at_call 27; refine (tape1_c _ _).mono ?_; rintro e w' ⟨rfl, rfl⟩; rw [hb])
        go_ret
        exact ⟨ret_int HF.out.symm, rfl⟩
      | false =>
        go_wp2_with (go_at_call 27; refine (tape1_c _ _).mono ?_; rintro e w' ⟨rfl, rfl⟩; rw [hb])
        go_round
        case rel => exact ⟨k + 1, by omega, by go_num, noneTo_succ HR.out hx.out hb⟩
        case measure => simp [intOf]; omega
    · have HF := Lib.hid (idxP_none HR.out (by rw [← HQ.out]; omega))
      go_wp2
      go_ret
      exact ⟨ret_int HF.out.symm, rfl⟩
def badB (l : List Int) : Bool := l.any (fun n => !symB n)
theorem idx_bad (l : List Int) : decide (0 ≤ idxP (fun n => !symB n) l) = badB l := by
  unfold idxP badB
  cases h : l.findIdx? (fun n => !symB n) with
  | none =>
    rw [List.findIdx?_eq_none_iff] at h
    have : l.any (fun n => !symB n) = false := by rw [List.any_eq_false]; intro x hx; have := h x hx; simp only [this]; decide
    rw [this]; decide
  | some i =>
    obtain ⟨h1, h2, _⟩ := List.findIdx?_eq_some_iff_getElem.1 h
    have : l.any (fun n => !symB n) = true := List.any_eq_true.2 ⟨_, List.getElem_mem h1, h2⟩
    rw [this]; simp
theorem containsBad_c (A : Option Addr) (l : List Int) (c : Nat) (w : World) (hl : l.length ≤ maxLen) (h1 : Sl w .i64 A l) :
    Calls Tryz.prog 46 #[.slice A l.length c, .func (.func 47) #[] #[]] w fun e w' => e = .returned (.bool (badB l)) ∧ w = w' := by
  have HI := Lib.hid (IndexBad_c A l c w hl h1)
  have HB := Lib.hid (idx_bad l)
  clear h1
  go_enter Tryz.func46, Tryz.ntmps46
  go_wp2_with (go_at_call 28; refine HI.out.mono ?_; rintro e w' ⟨rfl, rfl⟩)
  go_ret
  exact ⟨ret_bool HB.out, rfl⟩
theorem badSymbol_c (A : Option Addr) (l : List Int) (c : Nat) (w : World) (hl : l.length ≤ maxLen) (h1 : Sl w .i64 A l) :
    Calls Tryz.prog 25 #[.slice A l.length c] w fun e w' => e = .returned (.bool (badB l)) ∧ w = w' := by
  have HI := Lib.hid (containsBad_c A l c w hl h1)
  clear h1
  go_enter Tryz.func25, Tryz.ntmps25
  go_wp2_with (go_at_call 46; refine HI.out.mono ?_; rintro e w' ⟨rfl, rfl⟩)
  go_ret
  exact ⟨rfl, rfl⟩
/-- A cell that holds a slice of rules. -/
def RlAt (w : World) (o : Option Value) (L : List Rule) : Prop := ∃ A c, o = some (.slice A L.length c) ∧ L.length ≤ c ∧ c ≤ maxLen ∧ (A = none → c = 0) ∧ Rls w A L
theorem RlAt.ext {w w' : World} {o : Option Value} {L : List Rule} (h : RlAt w o L) (e : Ext w w') : RlAt w' o L := by
  obtain ⟨A, c, h1, h2, h3, h4, h5⟩ := h
  exact ⟨A, c, h1, h2, h3, h4, h5.ext e⟩
structure TsWf (s : Ts) : Prop where
  rules : ∀ r ∈ s.rules, RuleWf r
  cells : ∀ x ∈ s.cells, I64 x
  at_ : I64 s.at_
  state : I64 s.state
  stop : I64 s.stop
/-- The cells of a state of the tape machine. -/
structure TsIs (w : World) (cs : Array Value) (s : Ts) : Prop where
  size : cs.size = 5
  rules : RlAt w cs[0]? s.rules
  cells : SlAt w .i64 cs[1]? s.cells
  at_ : cs[2]? = some (.int .i64 s.at_)
  state : cs[3]? = some (.int .i64 s.state)
  stop : cs[4]? = some (.int .i64 s.stop)
  wf : TsWf s
theorem TsIs.ext {w w' : World} {cs : Array Value} {s : Ts} (h : TsIs w cs s) (e : Ext w w') : TsIs w' cs s := ⟨h.size, h.rules.ext e, h.cells.ext e, h.at_, h.state, h.stop, h.wf⟩
theorem faultR_code {L : List Rule} (h : faultR L ≠ (0, 0)) : (faultR L).1 ≠ 0 := by
  have key : ∀ (M : List Rule) (i : Nat) (p : Option Rule), scanR i p M = (0, 0) ∨ (scanR i p M).1 ≠ 0 := by
    intro M
    induction M with
    | nil => intro i p; left; rfl
    | cons r M ih =>
      intro i p
      rw [scanR]
      split
      · right; show (4 : Int) ≠ 0; decide
      · split
        · right; show (11 : Int) ≠ 0; decide
        · exact ih _ _
  unfold faultR at h ⊢
  split
  · decide
  · rename_i q
    rw [if_neg q] at h
    rcases key L 0 none with e | e
    · exact absurd e h
    · exact e
/-- The fault of a state. -/
def faultT (s : Ts) : Int × Int :=
  if faultR s.rules ≠ (0, 0) then faultR s.rules
  else if inB s.cells.length 1 200 = false then (9, -1)
  else if badB s.cells = true ∨ inB s.at_ 0 (s.cells.length - 1) = false ∨ inB s.state 0 15 = false ∨ inB s.stop 0 7 = false then (4, -1)
  else (0, 0)
end Go.Proofs.YtbaahbpianingaaGreatDoor
namespace Go.Proofs.YtbaahbpianingaaGreatDoor
open Go Go.Proofs Go.RowKit
open Tape (Rule Ts)
set_option maxHeartbeats 6400000
set_option maxRecDepth 100000
theorem sizeQ : (Tryz.prog.info? 25).map (·.size) = some 5 := by kernel_rfl
theorem Valid_t (cs : Array Value) (s : Ts) (w : World) (h : TsIs w cs s) : Calls Tryz.prog 11 #[.agg cs] w (FRet w (faultT s)) := by
  obtain ⟨A0, c0, e0, l0, m0, -, s0⟩ := h.rules
  obtain ⟨A1, c1, e1, l1, m1, -, s1⟩ := h.cells
  have e2 := h.at_
  have e3 := h.state
  have e4 := h.stop
  have HCR := Lib.hid (fun (W : World) (x : Ext w W) => checkRules_c A0 s.rules c0 W (Nat.le_trans l0 m0) (s0.ext x) h.wf.rules)
  have HBS := Lib.hid (fun (W : World) (x : Ext w W) => badSymbol_c A1 s.cells c1 W (Nat.le_trans l1 m1) (s1.ext x))
  have hnl := Nat.le_trans l1 m1
  unfold maxLen at hnl
  obtain ⟨R, hR⟩ : ∃ R, R = faultT s := ⟨_, rfl⟩
  have HR := Lib.hid hR
  rw [← hR]
  have HSZ := Lib.hid h.size
  clear hR h s0 s1 l0 m0 l1 m1
  go_enter Tryz.func11, Tryz.ntmps11
  go_upto_region 0 with (fail)
  go_cut [1, 2] (fun s1 s2 wx => s1 = .pointer (some ⟨w.heap.size, 0, none⟩) ∧ s2 = .pointer (some ⟨w.heap.size + 1, 0, none⟩) ∧ wx.heap[w.heap.size]? = some (.cells cs 25 (0, 0)) ∧ wx.heap[w.heap.size + 1]? = some (.cells #[.int .i64 0, .int .i64 0] 27 (0, 0)) ∧ Ext w wx)
  case first =>
    go_wp2_with fail
    go_meet
    exact ⟨rfl, by simp, heap_alloc2_old w _ _, heap_alloc2_new w _ _, ((Ext.refl w).alloc _).alloc _⟩
  obtain ⟨rfl, rfl, hb1, hb2, hx⟩ := hcut
  obtain ⟨wa, rfl⟩ : ∃ wa : World, wa = wc := ⟨_, rfl⟩
  have HX := Lib.hid hx
  have HB1 := Lib.hid hb1
  have HB2 := Lib.hid hb2
  have k0 : wa.cell? ⟨w.heap.size, 0, none⟩ = some (.slice A0 s.rules.length c0) := (blk_cell hb1 0).trans e0
  obtain ⟨fc, fi, hf⟩ : ∃ fc fi, faultR s.rules = (fc, fi) := ⟨_, _, rfl⟩
  have HF := Lib.hid hf
  clear hx hb1 hb2 hf
  go_upto_region 1 with (fail)
  go_cut [3] (fun s3 wx => ∃ g3, s3 = .pointer (some ⟨g3, 0, none⟩) ∧ wx.heap[g3]? = some (.cells #[.int .i64 fc, .int .i64 fi] 27 (0, 0)) ∧ Ext wa wx)
  case first =>
    have hr := HCR.out wa HX.out
    rw [HF.out] at hr
    have HRR := Lib.hid hr
    clear hr
    go_wp2_with fail
    refine HRR.out.mono ?_
    rintro e w1 ⟨rfl, hx1⟩
    have HX1 := Lib.hid hx1
    have HZ := Lib.hid (heap_alloc_new w1 (.cells #[.int .i64 0, .int .i64 0] 27))
    clear hx1
    simp only [fAgg]
    go_wp2_with (refine wpList_store_row rfl 27 _ _ rfl w1.heap.size #[.int .i64 fc, .int .i64 fi] rfl rfl 27 _ HZ.out sizeF rfl (by kernel_rfl) ?_)
    go_meet
    exact ⟨_, rfl, setRow_heap _ _ _ _ _ _ HZ.out, HX1.out.trans (((Ext.refl w1).alloc _).setRow (Nat.le_refl _) _)⟩
  obtain ⟨g3, rfl, hb3, hx3⟩ := hcut
  obtain ⟨wb, rfl⟩ : ∃ wb : World, wb = wc := ⟨_, rfl⟩
  have HXB := Lib.hid (HX.out.trans hx3)
  have HC1 := Lib.hid (ext_heap hx3 HB1.out)
  have HC2 := Lib.hid (ext_heap hx3 HB2.out)
  have f0 : wb.cell? ⟨g3, 0, none⟩ = some (.int .i64 fc) := blk_cell hb3 0
  have f1 : wb.cell? ⟨g3, 1, none⟩ = some (.int .i64 fi) := blk_cell hb3 1
  have k1 : wb.cell? ⟨w.heap.size, 1, none⟩ = some (.slice A1 s.cells.length c1) := (blk_cell HC1.out 1).trans e1
  have k2 : wb.cell? ⟨w.heap.size, 2, none⟩ = some (.int .i64 s.at_) := (blk_cell HC1.out 2).trans e2
  have k3 : wb.cell? ⟨w.heap.size, 3, none⟩ = some (.int .i64 s.state) := (blk_cell HC1.out 3).trans e3
  have k4 : wb.cell? ⟨w.heap.size, 4, none⟩ = some (.int .i64 s.stop) := (blk_cell HC1.out 4).trans e4
  clear hx3 k0 e0 e1 e2 e3 e4 hb3
  by_cases hgood : faultR s.rules = (0, 0)
  rotate_left
  · have hne : (fc == 0) = false := by
      have := faultR_code hgood
      rw [HF.out] at this
      simpa using this
    have HRE : Hid ((fc, fi) = R) := Lib.hid (by rw [HR.out]; unfold faultT; rw [if_pos hgood, HF.out])
    clear hgood
    go_wp2_with (refine wpList_store_row rfl 27 _ _ rfl (w.heap.size + 1) #[.int .i64 fc, .int .i64 fi] rfl rfl 27 _ HC2.out sizeF rfl (by kernel_rfl) ?_)
    refine bodyPost_ret (results_cell_row rfl _ _ (w.heap.size + 1) 27 #[.int .i64 fc, .int .i64 fi] (0, 0) _ rfl ?_ Tryz.underlying27 rfl sizeF) rfl (FRet.mk HRE.out (HXB.out.setRow (by omega) _))
    exact setRow_heap _ _ _ _ _ _ HC2.out
  have hfc : fc = 0 := by have := HF.out; rw [hgood] at this; cases this; rfl
  have hfi : fi = 0 := by have := HF.out; rw [hgood] at this; cases this; rfl
  subst hfc hfi
  have HG := Lib.hid hgood
  clear hgood
  cases q1 : inB s.cells.length 1 200
  · have HRE : Hid ((9, -1) = R) := Lib.hid (by rw [HR.out]; unfold faultT; rw [if_neg (by rw [HG.out]; simp), if_pos q1])
    have HD2 := Lib.hid (ext_heap ((Ext.refl wb).alloc (.cells #[.int .i64 9, .int .i64 (-1)] 27)) HC2.out)
    go_wp2_with (first | (go_at_call 37; refine (tin_c _ _ _ _).mono ?_; rintro e w' ⟨rfl, rfl⟩) | (go_at_call 24; refine (tfault_c _ _ _).mono ?_; rintro e w' ⟨rfl, rfl⟩) | refine wpList_store_row rfl 27 _ _ rfl (w.heap.size + 1) #[.int .i64 9, .int .i64 (-1)] rfl rfl 27 _ HD2.out sizeF rfl (by kernel_rfl) ?_)
    refine bodyPost_ret (results_cell_row rfl _ _ (w.heap.size + 1) 27 #[.int .i64 9, .int .i64 (-1)] (0, 0) _ rfl ?_ Tryz.underlying27 rfl sizeF) rfl (FRet.mk HRE.out ((HXB.out.alloc _).setRow (by omega) _))
    exact setRow_heap _ _ _ _ _ _ HD2.out
  have hn1 : (1 : Int) ≤ (s.cells.length : Int) ∧ (s.cells.length : Int) ≤ 200 := by unfold inB at q1; simpa using q1
  go_upto_region 6 with (go_at_call 37; refine (tin_c _ _ _ _).mono ?_; rintro e w' ⟨rfl, rfl⟩)
  go_cut [41] (fun s41 wx => ∃ bb : Bool, s41 = .bool bb ∧ Hid (bb = true ↔ (badB s.cells = true ∨ inB s.at_ 0 (s.cells.length - 1) = false ∨ inB s.state 0 15 = false ∨ inB s.stop 0 7 = false)) ∧ wb = wx)
  case first =>
    have HB := Lib.hid (HBS.out wb HXB.out)
    cases q2 : badB s.cells
    rotate_left
    · go_wp2_with (first | (go_at_call 25; refine HB.out.mono ?_; rintro e w' ⟨rfl, rfl⟩; rw [q2]) | (go_at_call 37; refine (tin_c _ _ _ _).mono ?_; rintro e w' ⟨rfl, rfl⟩))
      go_meet
      exact ⟨true, by simp, Lib.hid (by simp [q2]), rfl⟩
    cases q3 : inB s.at_ 0 (s.cells.length - 1)
    · go_wp2_with (first | (go_at_call 25; refine HB.out.mono ?_; rintro e w' ⟨rfl, rfl⟩; rw [q2]) | (go_at_call 37; refine (tin_c _ _ _ _).mono ?_; rintro e w' ⟨rfl, rfl⟩))
      go_meet
      exact ⟨true, by simp, Lib.hid (by simp [q3]), rfl⟩
    cases q4 : inB s.state 0 15
    · go_wp2_with (first | (go_at_call 25; refine HB.out.mono ?_; rintro e w' ⟨rfl, rfl⟩; rw [q2]) | (go_at_call 37; refine (tin_c _ _ _ _).mono ?_; rintro e w' ⟨rfl, rfl⟩))
      go_meet
      exact ⟨true, by simp, Lib.hid (by simp [q4]), rfl⟩
    cases q5 : inB s.stop 0 7
    · go_wp2_with (first | (go_at_call 25; refine HB.out.mono ?_; rintro e w' ⟨rfl, rfl⟩; rw [q2]) | (go_at_call 37; refine (tin_c _ _ _ _).mono ?_; rintro e w' ⟨rfl, rfl⟩))
      go_meet
      exact ⟨true, by simp, Lib.hid (by simp [q5]), rfl⟩
    · go_wp2_with (first | (go_at_call 25; refine HB.out.mono ?_; rintro e w' ⟨rfl, rfl⟩; rw [q2]) | (go_at_call 37; refine (tin_c _ _ _ _).mono ?_; rintro e w' ⟨rfl, rfl⟩))
      go_meet
      exact ⟨false, by simp, Lib.hid (by simp [q2, q3, q4, q5]), rfl⟩
  obtain ⟨bb, rfl, hbb, rfl⟩ := hcut
  cases bb with
  | true =>
    have HRE : Hid ((4, -1) = R) := Lib.hid (by rw [HR.out]; unfold faultT; rw [if_neg (by rw [HG.out]; simp), if_neg (by rw [q1]; decide), if_pos (hbb.out.1 rfl)])
    clear hbb
    have HD2 := Lib.hid (ext_heap ((Ext.refl wb).alloc (.cells #[.int .i64 4, .int .i64 (-1)] 27)) HC2.out)
    go_wp2_with (first | (go_at_call 24; refine (tfault_c _ _ _).mono ?_; rintro e w' ⟨rfl, rfl⟩) | refine wpList_store_row rfl 27 _ _ rfl (w.heap.size + 1) #[.int .i64 4, .int .i64 (-1)] rfl rfl 27 _ HD2.out sizeF rfl (by kernel_rfl) ?_)
    refine bodyPost_ret (results_cell_row rfl _ _ (w.heap.size + 1) 27 #[.int .i64 4, .int .i64 (-1)] (0, 0) _ rfl ?_ Tryz.underlying27 rfl sizeF) rfl (FRet.mk HRE.out ((HXB.out.alloc _).setRow (by omega) _))
    exact setRow_heap _ _ _ _ _ _ HD2.out
  | false =>
    have HRE : Hid ((0, 0) = R) := Lib.hid (by rw [HR.out]; unfold faultT; rw [if_neg (by rw [HG.out]; simp), if_neg (by rw [q1]; decide), if_neg (fun q => by have := hbb.out.2 q; cases this)])
    clear hbb
    go_wp2_with (refine wpList_store_row rfl 27 _ _ rfl (w.heap.size + 1) #[.int .i64 0, .int .i64 0] rfl rfl 27 _ HC2.out sizeF rfl (by kernel_rfl) ?_)
    refine bodyPost_ret (results_cell_row rfl _ _ (w.heap.size + 1) 27 #[.int .i64 0, .int .i64 0] (0, 0) _ rfl ?_ Tryz.underlying27 rfl sizeF) rfl (FRet.mk HRE.out (HXB.out.setRow (by omega) _))
    exact setRow_heap _ _ _ _ _ _ HC2.out
end Go.Proofs.YtbaahbpianingaaGreatDoor
namespace Go.Proofs.YtbaahbpianingaaGreatDoor
open Go Go.Proofs Go.RowKit
open Tape (Rule Ts)
set_option maxHeartbeats 1600000
set_option maxRecDepth 100000
/-- A row of the call's own comes back. -/
def CloneAt (w : World) (e : TypeId) (size n : Nat) (xs : List Value) (r : Ending) (w' : World) : Prop := ∃ v, r = .returned v ∧ w'.ownsRow w.heap.size e size v n xs ∧ Ext w w'
theorem infoR : (Tryz.prog.info? 54).map (fun i => (i.zero, i.size, i.bytes)) = some (some (.agg #[.int .i64 0, .int .i64 0, .int .i64 0, .int .i64 0, .int .i64 0]), 5, 40) := by kernel_rfl
theorem CloneI_c (A : Option Addr) (l : List Int) (c : Nat) (w : World) (hl : l.length ≤ 2000) (h : SlC w A (l.map (Value.int .i64))) (hA : A = none → c = 0) :
    Calls Tryz.prog 29 #[.slice A l.length c] w (CloneAt w 3 1 l.length (l.map (Value.int .i64))) := by
  obtain ⟨i0, hi, hz0, hz1, hz2⟩ := info_parts infoI
  cases A with
  | none =>
    have hl0 : l = [] := by
      cases l with
      | nil => rfl
      | cons x r => obtain ⟨a, ha, _⟩ := h 0 _ rfl; cases ha
    subst hl0
    obtain rfl := hA rfl
    have he := Lib.run_eql_slice_nil (P := Tryz.prog) w 23 3 none 0 0 0 0 Tryz.underlying23
    go_enter Tryz.func29, Tryz.ntmps29
    go_wp2
    go_ret
    exact ⟨_, rfl, World.ownsRow_nil _ _ _ _, Ext.refl _⟩
  | some a =>
    have he := Lib.run_eql_slice_nil (P := Tryz.prog) w 23 3 (some a) l.length c 0 0 Tryz.underlying23
    go_enter Tryz.func29, Tryz.ntmps29
    go_wp2_with (at_builtin; refine wpList_append_sl rfl _ _ 23 rfl w.heap.size 3 i0 (.int .i64 0) 1 8 Tryz.underlying23 hi hz0 hz1 hz2 rfl (by decide) _ 0 [] rfl (World.ownsRow_made _ _ 0 (Nat.le_refl _) (by simp [maxLen]) (by simp)) (some a) l.length c (l.map (Value.int .i64)) rfl (SlC.ext h ((Ext.refl _).alloc _)) (by simp) (ints_one) ?_ ?_ ?_ ?_)
    case _ => unfold maxLen; omega
    case _ => omega
    case _ => simp
    intro v' w1 ho hg hat
    go_wp2
    go_ret
    refine ⟨v', rfl, by simpa using ho, ?_⟩
    exact Below.grown ((Ext.refl w).alloc _) hg (by simp) (fun k hk => by simp [Value.ownBlock] at hk; omega)
theorem CloneR_c (A : Option Addr) (l : List Rule) (c : Nat) (w : World) (hl : l.length ≤ 2000) (h : SlC w A (rulesV l)) (hA : A = none → c = 0) :
    Calls Tryz.prog 26 #[.slice A l.length c] w (CloneAt w 54 5 l.length (rulesV l)) := by
  obtain ⟨i0, hi, hz0, hz1, hz2⟩ := info_parts infoR
  cases A with
  | none =>
    have hl0 : l = [] := by
      cases l with
      | nil => rfl
      | cons x r => obtain ⟨a, ha, _⟩ := h 0 _ rfl; cases ha
    subst hl0
    obtain rfl := hA rfl
    have he := Lib.run_eql_slice_nil (P := Tryz.prog) w 22 54 none 0 0 0 0 Tryz.underlying22
    go_enter Tryz.func26, Tryz.ntmps26
    go_wp2
    go_ret
    exact ⟨_, rfl, World.ownsRow_nil _ _ _ _, Ext.refl _⟩
  | some a =>
    have he := Lib.run_eql_slice_nil (P := Tryz.prog) w 22 54 (some a) l.length c 0 0 Tryz.underlying22
    go_enter Tryz.func26, Tryz.ntmps26
    go_wp2_with (at_builtin; refine wpList_append_sl rfl _ _ 22 rfl w.heap.size 54 i0 (.agg #[.int .i64 0, .int .i64 0, .int .i64 0, .int .i64 0, .int .i64 0]) 5 40 Tryz.underlying22 hi hz0 hz1 hz2 rfl (by decide) _ 0 [] rfl (World.ownsRow_made _ _ 0 (Nat.le_refl _) (by simp [maxLen]) (by simp)) (some a) l.length c (rulesV l) rfl (SlC.ext h ((Ext.refl _).alloc _)) (rulesV_len l) (rulesV_one l) ?_ ?_ ?_ ?_)
    case _ => unfold maxLen; omega
    case _ => omega
    case _ => simp
    intro v' w1 ho hg hat
    go_wp2
    go_ret
    refine ⟨v', rfl, by simpa using ho, ?_⟩
    exact Below.grown ((Ext.refl w).alloc _) hg (by simp) (fun k hk => by simp [Value.ownBlock] at hk; omega)
end Go.Proofs.YtbaahbpianingaaGreatDoor
