import Derived.Test.YtnijfndpefkoeaaRnC
namespace Go.Proofs.Ytnijfndpefkoeaa
open Go Go.Proofs Go.RowKit
set_option maxHeartbeats 6400000
set_option maxRecDepth 100000
theorem Ext.setRow {w wx : World} (h : Ext w wx) {g : Nat} (hg : w.heap.size ≤ g) (cs : Array Value) : Ext w (wx.setRow g cs) :=
  Below.trans h ⟨rfl, rfl, rfl, by simp [World.setRow], fun k hk => setRow_other wx g k cs (by omega)⟩
theorem results_oneR {P : Program} {fn : Func} {p : Tmp} {tp : TypeId} (h : fn.results = #[.cell p tp]) (tmps : Array Value) (w : World) (g : Nat) (t : TypeId) (cs : Array Value) (fr : Nat × Nat) (d : TypeDesc)
    (hp : tmps.getD p undef = .pointer (some ⟨g, 0, none⟩)) (hg : w.heap[g]? = some (.cells cs t fr)) (hu : P.underlying tp = some d) (hd : (match d with | .struct _ | .array _ _ => true | _ => false) = true) (hi : (P.info? tp).map (·.size) = some cs.size) :
    (results fn tmps).run P w = .ok (.agg cs) w := results_cell_row h tmps w g t cs fr d hp hg hu hd hi
theorem check_c (A : Option Addr) (L : List (Int × Int)) (c : Nat) (w : World) (hl : L.length ≤ maxLen) (h1 : Prs w A L) : Calls Try.prog 27 #[.slice A L.length c] w (FRet w (faultM L)) := by
  unfold maxLen at hl
  obtain ⟨n, hn⟩ : ∃ n, n = L.length := ⟨_, rfl⟩
  rw [← hn] at hl ⊢
  have HN := Lib.hid hn
  have H1 := Lib.hid h1
  clear h1
  by_cases h2 : 60 < n
  · have hf : (2, -1) = faultM L := by unfold faultM; rw [if_pos (by rw [← hn]; exact h2)]
    have HF := Lib.hid hf
    clear hf hn
    go_enter Try.func27, Try.ntmps27
    have HZ := Lib.hid (heap_alloc2_old w (.cells #[.int .i64 0, .int .i64 0] 26) (.cells #[.int .i64 2, .int .i64 (-1)] 26))
    go_wp2_with (first | (go_at_call 25; refine (tfault_c _ _ _).mono ?_; rintro e w' ⟨rfl, rfl⟩) | refine wpList_store_row rfl 26 _ _ rfl w.heap.size #[.int .i64 2, .int .i64 (-1)] rfl rfl 26 _ HZ.out sizeF rfl (by kernel_rfl) ?_)
    refine bodyPost_ret (results_oneR rfl _ _ w.heap.size 26 #[.int .i64 2, .int .i64 (-1)] (0, 0) _ rfl (setRow_heap _ _ _ _ _ _ HZ.out) Try.underlying26 rfl sizeF) rfl (FRet.mk HF.out ((((Ext.refl w).alloc _).alloc _).setRow (Nat.le_refl _) _))
  · obtain ⟨R, hR⟩ : ∃ R, R = faultM L := ⟨_, rfl⟩
    have hs : scanM 0 (L.drop 0) = R := by rw [hR]; unfold faultM; rw [if_neg (by rw [← hn]; exact h2)]; rfl
    have HS := Lib.hid hs
    rw [← hR]
    clear hs hR hn
    go_enter Try.func27, Try.ntmps27
    go_upto_region 4 with (fail)
    go_loopw [11] (fun t11 wx => ∃ k : Nat, k ≤ n ∧ t11 = .int .i64 k ∧ wx.heap[w.heap.size]? = some (.cells #[.int .i64 0, .int .i64 0] 26 (0, 0)) ∧ Hid (scanM k (L.drop k) = R) ∧ Ext w wx) (fun t11 _ => n - (intOf t11).toNat)
    case atStart => exact ⟨0, Nat.zero_le _, rfl, heap_alloc_new w _, HS, (Ext.refl w).alloc _⟩
    case round =>
    obtain ⟨k, hk, rfl, hb, hsc, hx⟩ := hrel
    have HB := Lib.hid hb
    have HX := Lib.hid hx
    have hlt := (Array.getElem?_eq_some_iff.1 hb).1
    clear hb hx
    by_cases hlt2 : k < n
    · obtain ⟨m, hm⟩ : ∃ m, L[k]? = some m := ⟨_, List.getElem?_eq_getElem (by rw [← HN.out]; exact hlt2)⟩
      obtain ⟨bb, o, rfl, m0, m1⟩ := (H1.out.ext HX.out).at_ hm
      have HST := Lib.hid (scanM_step hm)
      have HV := Lib.hid (fun (W : World) => valid_c m W)
      obtain ⟨x0, x1⟩ := m
      simp only at m0 m1 HV
      clear hm
      have XA : Ext wr (wr.alloc (.cells #[.int .i64 x0, .int .i64 x1] 23)) := (Ext.refl wr).alloc _
      have HBA := Lib.hid (ext_heap XA HB.out)
      have HXA := Lib.hid (HX.out.trans XA)
      clear XA
      cases hv : okM (x0, x1) with
      | true =>
        rw [hv] at HV
        have HSN : Hid (scanM (k + 1) (L.drop (k + 1)) = R) := Lib.hid (by rw [← hsc.out, HST.out, if_neg (by rw [hv]; decide)])
        clear hv hsc
        go_wp2_with (go_at_call 24; refine (HV.out _).mono ?_; rintro e w2 ⟨rfl, hx2⟩; have HX2 := Lib.hid hx2; clear hx2)
        go_roundw
        case rel => exact ⟨k + 1, hlt2, by go_num, ext_heap HX2.out HBA.out, HSN, HXA.out.trans HX2.out⟩
        case measure => simp [intOf]; omega
      | false =>
        rw [hv] at HV
        have HSN : Hid ((4, (k : Int)) = R) := Lib.hid (by rw [← hsc.out, HST.out, if_pos hv])
        clear hv hsc
        go_upto_region 7 with (go_at_call 24; refine (HV.out _).mono ?_; rintro e w2 ⟨rfl, hx2⟩; have HX2 := Lib.hid hx2; clear hx2)
        have X3 : Ext w2 (w2.alloc (.cells #[.int .i64 4, .int .i64 (k : Int)] 26)) := (Ext.refl w2).alloc _
        have HZB := Lib.hid (ext_heap (HX2.out.trans X3) HBA.out)
        have HXR := Lib.hid ((HXA.out.trans HX2.out).trans X3)
        clear X3
        go_wp2_with (first | (go_at_call 25; refine (tfault_c _ _ _).mono ?_; rintro e w' ⟨rfl, rfl⟩) | refine wpList_store_row rfl 26 _ _ rfl w.heap.size #[.int .i64 4, .int .i64 (k : Int)] rfl rfl 26 _ HZB.out sizeF rfl (by kernel_rfl) ?_)
        refine bodyPost_ret (results_oneR rfl _ _ w.heap.size 26 #[.int .i64 4, .int .i64 (k : Int)] (0, 0) _ rfl (setRow_heap _ _ _ _ _ _ HZB.out) Try.underlying26 rfl sizeF) rfl (FRet.mk HSN.out (HXR.out.setRow (Nat.le_refl _) _))
    · have HSN : Hid ((0, 0) = R) := Lib.hid (by rw [← hsc.out, scanM_end (by rw [← HN.out]; omega)])
      obtain ⟨c0, c1, f0, f1⟩ := Blk2.mk' HB.out
      clear hsc
      go_wp2
      exact bodyPost_ret (results_oneR rfl _ _ w.heap.size 26 #[.int .i64 0, .int .i64 0] (0, 0) _ rfl (fblk_set HB.out) Try.underlying26 rfl sizeF) rfl (FRet.mk HSN.out (ext_set2 HX.out (Nat.le_refl _) _ _))
theorem MediaFault_c (A : Option Addr) (L : List (Int × Int)) (c : Nat) (w : World) (hl : L.length ≤ maxLen) (h1 : Prs w A L) : Calls Try.prog 15 #[.slice A L.length c] w (FRet w (faultM L)) := by
  unfold maxLen at hl
  obtain ⟨n, hn⟩ : ∃ n, n = L.length := ⟨_, rfl⟩
  rw [← hn] at hl ⊢
  have HN := Lib.hid hn
  have H1 := Lib.hid h1
  clear h1
  by_cases h2 : 60 < n
  · have hf : (2, -1) = faultM L := by unfold faultM; rw [if_pos (by rw [← hn]; exact h2)]
    have HF := Lib.hid hf
    clear hf hn
    go_enter Try.func15, Try.ntmps15
    have HZ := Lib.hid (heap_alloc2_old w (.cells #[.int .i64 0, .int .i64 0] 26) (.cells #[.int .i64 2, .int .i64 (-1)] 26))
    go_wp2_with (first | (go_at_call 14; refine (At_c _ _ _).mono ?_; rintro e w' ⟨rfl, rfl⟩) | refine wpList_store_row rfl 26 _ _ rfl w.heap.size #[.int .i64 2, .int .i64 (-1)] rfl rfl 26 _ HZ.out sizeF rfl (by kernel_rfl) ?_)
    refine bodyPost_ret (results_oneR rfl _ _ w.heap.size 26 #[.int .i64 2, .int .i64 (-1)] (0, 0) _ rfl (setRow_heap _ _ _ _ _ _ HZ.out) Try.underlying26 rfl sizeF) rfl (FRet.mk HF.out ((((Ext.refl w).alloc _).alloc _).setRow (Nat.le_refl _) _))
  · obtain ⟨R, hR⟩ : ∃ R, R = faultM L := ⟨_, rfl⟩
    have hs : scanM 0 (L.drop 0) = R := by rw [hR]; unfold faultM; rw [if_neg (by rw [← hn]; exact h2)]; rfl
    have HS := Lib.hid hs
    rw [← hR]
    clear hs hR hn
    go_enter Try.func15, Try.ntmps15
    go_upto_region 4 with (fail)
    go_loopw [3] (fun t11 wx => ∃ k : Nat, k ≤ n ∧ t11 = .int .i64 k ∧ wx.heap[w.heap.size]? = some (.cells #[.int .i64 0, .int .i64 0] 26 (0, 0)) ∧ Hid (scanM k (L.drop k) = R) ∧ Ext w wx) (fun t11 _ => n - (intOf t11).toNat)
    case atStart => exact ⟨0, Nat.zero_le _, rfl, heap_alloc_new w _, HS, (Ext.refl w).alloc _⟩
    case round =>
    obtain ⟨k, hk, rfl, hb, hsc, hx⟩ := hrel
    have HB := Lib.hid hb
    have HX := Lib.hid hx
    have hlt := (Array.getElem?_eq_some_iff.1 hb).1
    clear hb hx
    by_cases hlt2 : k < n
    · obtain ⟨m, hm⟩ : ∃ m, L[k]? = some m := ⟨_, List.getElem?_eq_getElem (by rw [← HN.out]; exact hlt2)⟩
      obtain ⟨bb, o, rfl, m0, m1⟩ := (H1.out.ext HX.out).at_ hm
      have HST := Lib.hid (scanM_step hm)
      have HV := Lib.hid (fun (W : World) => MediumOk_c m W)
      obtain ⟨x0, x1⟩ := m
      simp only at m0 m1 HV
      clear hm
      have XA : Ext wr wr := Ext.refl wr
      have HBA := Lib.hid (ext_heap XA HB.out)
      have HXA := Lib.hid (HX.out.trans XA)
      clear XA
      cases hv : okM (x0, x1) with
      | true =>
        rw [hv] at HV
        have HSN : Hid (scanM (k + 1) (L.drop (k + 1)) = R) := Lib.hid (by rw [← hsc.out, HST.out, if_neg (by rw [hv]; decide)])
        clear hv hsc
        go_wp2_with (go_at_call 12; refine (HV.out _).mono ?_; rintro e w2 ⟨rfl, hx2⟩; have HX2 := Lib.hid hx2; clear hx2)
        go_roundw
        case rel => exact ⟨k + 1, hlt2, by go_num, ext_heap HX2.out HBA.out, HSN, HXA.out.trans HX2.out⟩
        case measure => simp [intOf]; omega
      | false =>
        rw [hv] at HV
        have HSN : Hid ((4, (k : Int)) = R) := Lib.hid (by rw [← hsc.out, HST.out, if_pos hv])
        clear hv hsc
        go_upto_region 7 with (go_at_call 12; refine (HV.out _).mono ?_; rintro e w2 ⟨rfl, hx2⟩; have HX2 := Lib.hid hx2; clear hx2)
        have X3 : Ext w2 (w2.alloc (.cells #[.int .i64 4, .int .i64 (k : Int)] 26)) := (Ext.refl w2).alloc _
        have HZB := Lib.hid (ext_heap (HX2.out.trans X3) HBA.out)
        have HXR := Lib.hid ((HXA.out.trans HX2.out).trans X3)
        clear X3
        go_wp2_with (first | (go_at_call 14; refine (At_c _ _ _).mono ?_; rintro e w' ⟨rfl, rfl⟩) | refine wpList_store_row rfl 26 _ _ rfl w.heap.size #[.int .i64 4, .int .i64 (k : Int)] rfl rfl 26 _ HZB.out sizeF rfl (by kernel_rfl) ?_)
        refine bodyPost_ret (results_oneR rfl _ _ w.heap.size 26 #[.int .i64 4, .int .i64 (k : Int)] (0, 0) _ rfl (setRow_heap _ _ _ _ _ _ HZB.out) Try.underlying26 rfl sizeF) rfl (FRet.mk HSN.out (HXR.out.setRow (Nat.le_refl _) _))
    · have HSN : Hid ((0, 0) = R) := Lib.hid (by rw [← hsc.out, scanM_end (by rw [← HN.out]; omega)])
      obtain ⟨c0, c1, f0, f1⟩ := Blk2.mk' HB.out
      clear hsc
      go_wp2
      exact bodyPost_ret (results_oneR rfl _ _ w.heap.size 26 #[.int .i64 0, .int .i64 0] (0, 0) _ rfl (fblk_set HB.out) Try.underlying26 rfl sizeF) rfl (FRet.mk HSN.out (ext_set2 HX.out (Nat.le_refl _) _ _))
end Go.Proofs.Ytnijfndpefkoeaa
