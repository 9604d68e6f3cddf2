import Derived.Test.YtbaahbpianingaaDoorSpec1
namespace Go.Proofs.YtbaahbpianingaaDoor
open Go Go.Proofs Go.RowKit
open Acc (Dk red five)
set_option maxHeartbeats 4000000
set_option maxRecDepth 100000
theorem WordsFault_x (g : Nat) (l : List Int) (w : World) (hl : l.length = 100) (h1 : Sl w .i64 (some ⟨g, 0, none⟩) l) : Calls Tryd.prog 13 #[.slice (some ⟨g, 0, none⟩) 100 100] w fun e w' =>
    (badI l < 0 ∧ e = .returned (fAgg (0, 0)) ∧ w' = w.alloc (.cells #[.int .i64 0, .int .i64 0] 28 (0, 0))) ∨ (0 ≤ badI l ∧ e = .returned (fAgg (4, badI l)) ∧ w' = (w.alloc (.cells #[.int .i64 4, .int .i64 (badI l)] 28 (0, 0))).alloc (.cells #[.int .i64 4, .int .i64 (badI l)] 28 (0, 0))) := by
  have hf : ∀ k : Nat, k ≤ 100 → fineTo l k → (100 ≤ k → badI l < 0) ∧ (∀ y, l[k]? = some y → five y = false → badI l = (k : Int)) := by
    intro k hkq hk
    exact ⟨fun h => by rw [badI_none hk (by rw [hl]; omega)]; decide, fun y h h' => badI_some hk h h'⟩
  have HF := Lib.hid hf
  have HL := Lib.hid hl
  clear hf hl
  go_enter Tryd.func13, Tryd.ntmps13
  go_wp2
  go_loop [3] (fun i => ∃ k : Nat, k ≤ 100 ∧ i = .int .i64 k ∧ fineTo l k) (fun i => 100 - (intOf i).toNat)
  case atStart => exact ⟨0, Nat.zero_le _, rfl, fun i x hi => by omega⟩
  case round =>
    obtain ⟨k, hk, rfl, hr⟩ := hrel
    have HR := Lib.hid hr
    clear hr
    by_cases hlt : k < 100
    · have hkl : k < l.length := by rw [HL.out]; exact hlt
      obtain ⟨y, hy⟩ : ∃ y, l[k]? = some y := ⟨_, List.getElem?_eq_getElem hkl⟩
      obtain ⟨b, o, hbo, ha⟩ := h1.at_ hkl
      cases hbo
      rw [hy] at ha
      simp only [Option.getD_some, Nat.zero_add] at ha
      have HY := Lib.hid hy
      clear hkl hy
      have hblt := World.block_lt_of_cell? w _ ha
      cases hb : five y with
      | false =>
        go_wp2_with (first | (go_at_call 42; refine (five_c _ _).mono ?_; rintro e w' ⟨rfl, rfl⟩; rw [hb]) | (go_at_call 14; refine (At_c _ _ _).mono ?_; rintro e w' ⟨rfl, rfl⟩))
        have hbk := (HF.out k (by omega) HR.out).2 y HY.out hb
        exact bodyPost_ret (v := fAgg (4, k)) (by simp [results, Tryd.results13, go_sem, fAgg]) rfl (by right; rw [hbk]; exact ⟨by omega, rfl, rfl⟩)
      | true =>
        go_wp2_with (go_at_call 42; refine (five_c _ _).mono ?_; rintro e w' ⟨rfl, rfl⟩; rw [hb])
        refine ⟨⟨k + 1, by omega, by go_num, fineTo_succ HR.out HY.out hb⟩, by simp [intOf]; omega⟩
    · go_wp2
      have hbk := (HF.out k (by omega) HR.out).1 (by omega)
      exact bodyPost_ret (v := fAgg (0, 0)) (by simp [results, Tryd.results13, go_sem, fAgg]) rfl (by left; exact ⟨hbk, rfl, rfl⟩)
theorem WordsFault_g (g : Nat) (l : List Int) (w : World) (hl : l.length = 100) (h1 : Sl w .i64 (some ⟨g, 0, none⟩) l) (hb : badI l < 0) : Calls Tryd.prog 13 #[.slice (some ⟨g, 0, none⟩) 100 100] w fun e w' =>
    e = .returned (fAgg (0, 0)) ∧ w.alloc (.cells #[.int .i64 0, .int .i64 0] 28 (0, 0)) = w' := (WordsFault_x g l w hl h1).mono fun e w' h => by
  rcases h with ⟨_, h1, h2⟩ | ⟨h0, _⟩
  · exact ⟨h1, h2.symm⟩
  · omega
theorem WordsFault_b (g : Nat) (l : List Int) (w : World) (hl : l.length = 100) (h1 : Sl w .i64 (some ⟨g, 0, none⟩) l) (hb : 0 ≤ badI l) : Calls Tryd.prog 13 #[.slice (some ⟨g, 0, none⟩) 100 100] w fun e w' =>
    e = .returned (fAgg (4, badI l)) ∧ (w.alloc (.cells #[.int .i64 4, .int .i64 (badI l)] 28 (0, 0))).alloc (.cells #[.int .i64 4, .int .i64 (badI l)] 28 (0, 0)) = w' := (WordsFault_x g l w hl h1).mono fun e w' h => by
  rcases h with ⟨h0, _⟩ | ⟨_, h1, h2⟩
  · omega
  · exact ⟨h1, h2.symm⟩
theorem inB_true {n lo hi : Int} (h1 : lo ≤ n) (h2 : n ≤ hi) : inB n lo hi = true := by unfold inB; simp; omega
theorem inB_false {n lo hi : Int} (h : ¬ (lo ≤ n ∧ n ≤ hi)) : inB n lo hi = false := by unfold inB; simp; omega
theorem five_bad {a q x : Int} : 0 ≤ badI [a, q, x] ↔ ¬ (five a = true ∧ five q = true ∧ five x = true) := by
  unfold badI
  cases h1 : five a <;> cases h2 : five q <;> cases h3 : five x <;> simp [List.findIdx?_cons, h1, h2, h3]
theorem DeckFault_c (cs : Array Value) (s : Dk) (w : World) (h : DkIs w cs s) : Calls Tryd.prog 18 #[.agg cs] w (FRet w (faultD s)) := by
  obtain ⟨A5, c5, e5, l5, m5, -, -⟩ := h.input
  obtain ⟨A6, c6, e6, l6, m6, -, -⟩ := h.output
  have e0 := h.at_
  have e1 := h.a
  have e2 := h.q
  have e3 := h.x
  have e7 := h.stop
  have HWG := Lib.hid (fun (W : World) (hg : W.heap[w.heap.size]? = some (.cells cs 25 (0, 0))) => WordsFault_g w.heap.size s.words W h.wf.len (words_sl h hg))
  have HWB := Lib.hid (fun (W : World) (hg : W.heap[w.heap.size]? = some (.cells cs 25 (0, 0))) => WordsFault_b w.heap.size s.words W h.wf.len (words_sl h hg))
  unfold maxLen at *
  have hfd : ∀ p, p = faultD s → Hid (p = faultD s) := fun _ h => Lib.hid h
  unfold faultD
  simp only [five_bad]
  clear h hfd
  generalize badI s.words = b1 at *
  by_cases h1 : 0 ≤ b1
  · rw [if_pos h1]
    go_enter Tryd.func18, Tryd.ntmps18
    go_upto_region 1 with (fail)
    go_wp2_with (first | (go_at_call 13; refine (HWB.out _ (heap_alloc2_old w _ _) (by assumption)).mono ?_; rintro e w' ⟨rfl, rfl⟩; simp only [fAgg]) | (go_at_call 14; refine (At_c _ _ _).mono ?_; rintro e w' ⟨rfl, rfl⟩) | (go_at_call 22; refine (In_c _ _ _ _).mono ?_; rintro e w' ⟨rfl, rfl⟩) | (go_at_call 42; refine (five_c _ _).mono ?_; rintro e w' ⟨rfl, rfl⟩))
    exact bodyPost_ret (v := fAgg (4, b1)) (by simp [results, Tryd.results18, go_sem, fAgg]) rfl (FRet.mk rfl (by repeat (first | exact Ext.refl _ | apply Ext.alloc)))
  have g1 : b1 < 0 := by omega
  rw [if_neg h1]
  clear h1
  by_cases c0 : ¬ (0 ≤ s.at_ ∧ s.at_ ≤ 100)
  · rw [if_pos (by first | omega | simp_all)]
    have t0 : inB s.at_ 0 100 = false := inB_false c0
    go_enter Tryd.func18, Tryd.ntmps18
    go_upto_region 1 with (fail)
    go_wp2_with (first | (go_at_call 13; refine (HWG.out _ (heap_alloc2_old w _ _) (by assumption)).mono ?_; rintro e w' ⟨rfl, rfl⟩; simp only [fAgg]) | (go_at_call 14; refine (At_c _ _ _).mono ?_; rintro e w' ⟨rfl, rfl⟩) | (go_at_call 22; refine (In_c _ _ _ _).mono ?_; rintro e w' ⟨rfl, rfl⟩) | (go_at_call 42; refine (five_c _ _).mono ?_; rintro e w' ⟨rfl, rfl⟩))
    exact bodyPost_ret (v := fAgg (4, -1)) (by simp [results, Tryd.results18, go_sem, fAgg]) rfl (FRet.mk rfl (by repeat (first | exact Ext.refl _ | apply Ext.alloc)))
  have d0 := Classical.not_not.1 c0
  have t0 : inB s.at_ 0 100 = true := inB_true d0.1 d0.2
  clear c0
  by_cases c1 : five s.a = false
  · rw [if_pos (by first | omega | simp_all)]
    go_enter Tryd.func18, Tryd.ntmps18
    go_upto_region 1 with (fail)
    go_wp2_with (first | (go_at_call 13; refine (HWG.out _ (heap_alloc2_old w _ _) (by assumption)).mono ?_; rintro e w' ⟨rfl, rfl⟩; simp only [fAgg]) | (go_at_call 14; refine (At_c _ _ _).mono ?_; rintro e w' ⟨rfl, rfl⟩) | (go_at_call 22; refine (In_c _ _ _ _).mono ?_; rintro e w' ⟨rfl, rfl⟩) | (go_at_call 42; refine (five_c _ _).mono ?_; rintro e w' ⟨rfl, rfl⟩))
    exact bodyPost_ret (v := fAgg (4, -1)) (by simp [results, Tryd.results18, go_sem, fAgg]) rfl (FRet.mk rfl (by repeat (first | exact Ext.refl _ | apply Ext.alloc)))
  have t1 : five s.a = true := by simpa using c1
  clear c1
  by_cases c2 : five s.q = false
  · rw [if_pos (by first | omega | simp_all)]
    go_enter Tryd.func18, Tryd.ntmps18
    go_upto_region 1 with (fail)
    go_wp2_with (first | (go_at_call 13; refine (HWG.out _ (heap_alloc2_old w _ _) (by assumption)).mono ?_; rintro e w' ⟨rfl, rfl⟩; simp only [fAgg]) | (go_at_call 14; refine (At_c _ _ _).mono ?_; rintro e w' ⟨rfl, rfl⟩) | (go_at_call 22; refine (In_c _ _ _ _).mono ?_; rintro e w' ⟨rfl, rfl⟩) | (go_at_call 42; refine (five_c _ _).mono ?_; rintro e w' ⟨rfl, rfl⟩))
    exact bodyPost_ret (v := fAgg (4, -1)) (by simp [results, Tryd.results18, go_sem, fAgg]) rfl (FRet.mk rfl (by repeat (first | exact Ext.refl _ | apply Ext.alloc)))
  have t2 : five s.q = true := by simpa using c2
  clear c2
  by_cases c3 : five s.x = false
  · rw [if_pos (by first | omega | simp_all)]
    go_enter Tryd.func18, Tryd.ntmps18
    go_upto_region 1 with (fail)
    go_wp2_with (first | (go_at_call 13; refine (HWG.out _ (heap_alloc2_old w _ _) (by assumption)).mono ?_; rintro e w' ⟨rfl, rfl⟩; simp only [fAgg]) | (go_at_call 14; refine (At_c _ _ _).mono ?_; rintro e w' ⟨rfl, rfl⟩) | (go_at_call 22; refine (In_c _ _ _ _).mono ?_; rintro e w' ⟨rfl, rfl⟩) | (go_at_call 42; refine (five_c _ _).mono ?_; rintro e w' ⟨rfl, rfl⟩))
    exact bodyPost_ret (v := fAgg (4, -1)) (by simp [results, Tryd.results18, go_sem, fAgg]) rfl (FRet.mk rfl (by repeat (first | exact Ext.refl _ | apply Ext.alloc)))
  have t3 : five s.x = true := by simpa using c3
  clear c3
  by_cases c4 : ¬ (0 ≤ s.stop ∧ s.stop ≤ 7)
  · rw [if_pos (by first | omega | simp_all)]
    have t4 : inB s.stop 0 7 = false := inB_false c4
    go_enter Tryd.func18, Tryd.ntmps18
    go_upto_region 1 with (fail)
    go_wp2_with (first | (go_at_call 13; refine (HWG.out _ (heap_alloc2_old w _ _) (by assumption)).mono ?_; rintro e w' ⟨rfl, rfl⟩; simp only [fAgg]) | (go_at_call 14; refine (At_c _ _ _).mono ?_; rintro e w' ⟨rfl, rfl⟩) | (go_at_call 22; refine (In_c _ _ _ _).mono ?_; rintro e w' ⟨rfl, rfl⟩) | (go_at_call 42; refine (five_c _ _).mono ?_; rintro e w' ⟨rfl, rfl⟩))
    exact bodyPost_ret (v := fAgg (4, -1)) (by simp [results, Tryd.results18, go_sem, fAgg]) rfl (FRet.mk rfl (by repeat (first | exact Ext.refl _ | apply Ext.alloc)))
  have d4 := Classical.not_not.1 c4
  have t4 : inB s.stop 0 7 = true := inB_true d4.1 d4.2
  clear c4
  rw [if_neg (by simp [t1, t2, t3]; omega)]
  by_cases f0 : 1000 < s.input.length
  · rw [if_pos (by omega)]
    have v0 : decide ((1000 : Int) < (s.input.length : Int)) = true := by simp; omega
    go_enter Tryd.func18, Tryd.ntmps18
    go_upto_region 1 with (fail)
    go_wp2_with (first | (go_at_call 13; refine (HWG.out _ (heap_alloc2_old w _ _) (by assumption)).mono ?_; rintro e w' ⟨rfl, rfl⟩; simp only [fAgg]) | (go_at_call 14; refine (At_c _ _ _).mono ?_; rintro e w' ⟨rfl, rfl⟩) | (go_at_call 22; refine (In_c _ _ _ _).mono ?_; rintro e w' ⟨rfl, rfl⟩) | (go_at_call 42; refine (five_c _ _).mono ?_; rintro e w' ⟨rfl, rfl⟩))
    exact bodyPost_ret (v := fAgg (3, -1)) (by simp [results, Tryd.results18, go_sem, fAgg]) rfl (FRet.mk rfl (by repeat (first | exact Ext.refl _ | apply Ext.alloc)))
  have h0 : s.input.length ≤ 1000 := by omega
  have v0 : decide ((1000 : Int) < (s.input.length : Int)) = false := by simp; omega
  clear f0
  by_cases f1 : 1000 < s.output.length
  · rw [if_pos (by omega)]
    have v1 : decide ((1000 : Int) < (s.output.length : Int)) = true := by simp; omega
    go_enter Tryd.func18, Tryd.ntmps18
    go_upto_region 1 with (fail)
    go_wp2_with (first | (go_at_call 13; refine (HWG.out _ (heap_alloc2_old w _ _) (by assumption)).mono ?_; rintro e w' ⟨rfl, rfl⟩; simp only [fAgg]) | (go_at_call 14; refine (At_c _ _ _).mono ?_; rintro e w' ⟨rfl, rfl⟩) | (go_at_call 22; refine (In_c _ _ _ _).mono ?_; rintro e w' ⟨rfl, rfl⟩) | (go_at_call 42; refine (five_c _ _).mono ?_; rintro e w' ⟨rfl, rfl⟩))
    exact bodyPost_ret (v := fAgg (3, -1)) (by simp [results, Tryd.results18, go_sem, fAgg]) rfl (FRet.mk rfl (by repeat (first | exact Ext.refl _ | apply Ext.alloc)))
  have h1 : s.output.length ≤ 1000 := by omega
  have v1 : decide ((1000 : Int) < (s.output.length : Int)) = false := by simp; omega
  clear f1
  rw [if_neg (by omega)]
  go_enter Tryd.func18, Tryd.ntmps18
  go_upto_region 1 with (fail)
  go_wp2_with (first | (go_at_call 13; refine (HWG.out _ (heap_alloc2_old w _ _) (by assumption)).mono ?_; rintro e w' ⟨rfl, rfl⟩; simp only [fAgg]) | (go_at_call 14; refine (At_c _ _ _).mono ?_; rintro e w' ⟨rfl, rfl⟩) | (go_at_call 22; refine (In_c _ _ _ _).mono ?_; rintro e w' ⟨rfl, rfl⟩) | (go_at_call 42; refine (five_c _ _).mono ?_; rintro e w' ⟨rfl, rfl⟩))
  exact bodyPost_ret (v := fAgg (0, 0)) (by simp [results, Tryd.results18, go_sem, fAgg]) rfl (FRet.mk rfl (by repeat (first | exact Ext.refl _ | apply Ext.alloc)))
end Go.Proofs.YtbaahbpianingaaDoor
