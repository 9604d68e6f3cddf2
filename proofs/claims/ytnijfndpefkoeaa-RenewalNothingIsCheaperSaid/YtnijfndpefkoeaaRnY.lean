import Derived.Test.YtnijfndpefkoeaaRnX
namespace Go.Proofs.Ytnijfndpefkoeaa
open Go Go.Proofs Go.RowKit
set_option maxHeartbeats 6400000
set_option maxRecDepth 100000
theorem results_ttc {P : Program} {fn : Func} {u v q : Tmp} {tq : TypeId} (h : fn.results = #[.tmp u, .tmp v, .cell q tq]) (tmps : Array Value) (w : World) (g' : Nat) (t' : TypeId) (cs' : Array Value) (fr' : Nat × Nat) (d' : TypeDesc)
    (hq : tmps.getD q undef = .pointer (some ⟨g', 0, none⟩)) (hg' : w.heap[g']? = some (.cells cs' t' fr')) (hu' : P.underlying tq = some d') (hd' : (match d' with | .struct _ | .array _ _ => true | _ => false) = true) (hi' : (P.info? tq).map (·.size) = some cs'.size) :
    (results fn tmps).run P w = .ok (.tuple #[tmps.getD u undef, tmps.getD v undef, .agg cs']) w := by
  have hq' : tmps[q]?.getD undef = .pointer (some ⟨g', 0, none⟩) := by simpa using hq
  simp [results, h, hq', asAddr, run_loadVar_row w g' t' tq cs' fr' d' hg' hu' hd' hi']
theorem Window_c (p : Int × Int) (w : World) : Calls Try.prog 9 #[.agg #[.int .i64 p.1, .int .i64 p.2]] w (WinRet w p) := by
  obtain ⟨a, b⟩ := p
  have XA : Ext w ((w.alloc (.cells #[.int .i64 a, .int .i64 b] 23)).alloc (.cells #[.int .i64 0, .int .i64 0] 26)) := ((Ext.refl w).alloc _).alloc _
  have HB0 : ((w.alloc (.cells #[.int .i64 a, .int .i64 b] 23)).alloc (.cells #[.int .i64 0, .int .i64 0] 26)).heap[(w.alloc (.cells #[.int .i64 a, .int .i64 b] 23)).heap.size]? = some (.cells #[.int .i64 0, .int .i64 0] 26 (0, 0)) := heap_alloc_new _ _
  have HM0 : ((w.alloc (.cells #[.int .i64 a, .int .i64 b] 23)).alloc (.cells #[.int .i64 0, .int .i64 0] 26)).heap[w.heap.size]? = some (.cells #[.int .i64 a, .int .i64 b] 23 (0, 0)) := ext_heap ((Ext.refl _).alloc _) (heap_alloc_new w _)
  have hsz : (w.alloc (.cells #[.int .i64 a, .int .i64 b] 23)).heap.size = w.heap.size + 1 := by simp
  rw [hsz] at HB0
  cases hv : okM (a, b) with
  | false =>
    have HV := Lib.hid (fun W => valid_c (a, b) W)
    rw [hv] at HV
    have HE : Hid (∀ W, Ext w W → WinRet w (a, b) (.returned (.tuple #[.int .i64 0, .int .i64 0, .agg #[.int .i64 4, .int .i64 (-1)]])) W) := Lib.hid (fun W x => ⟨x, by rw [if_neg (by rw [hv]; decide)]; rfl⟩)
    have HXA := Lib.hid XA
    have HBA := Lib.hid HB0
    clear hv XA HB0 HM0 hsz
    go_enter Try.func9, Try.ntmps9
    go_upto_region 2 with (go_at_call 24; refine (HV.out _).mono ?_; rintro e w2 ⟨rfl, hx2⟩; have HX2 := Lib.hid hx2; clear hx2)
    have HX := Lib.hid ((HXA.out.trans HX2.out).alloc (.cells #[.int .i64 4, .int .i64 (-1)] 26))
    have HB := Lib.hid (ext_heap ((Ext.refl w2).alloc (.cells #[.int .i64 4, .int .i64 (-1)] 26)) (ext_heap HX2.out HBA.out))
    go_wp2_with (first | (go_at_call 25; refine (tfault_c _ _ _).mono ?_; rintro e w' ⟨rfl, rfl⟩) | refine wpList_store_row rfl 26 _ _ rfl (w.heap.size + 1) #[.int .i64 4, .int .i64 (-1)] rfl rfl 26 _ HB.out sizeF rfl (by kernel_rfl) ?_)
    exact bodyPost_ret (results_ttc Try.results9 _ _ (w.heap.size + 1) 26 #[.int .i64 4, .int .i64 (-1)] (0, 0) _ rfl (setRow_heap _ _ _ _ _ _ HB.out) Try.underlying26 rfl sizeF) rfl (HE.out _ (HX.out.setRow (Nat.le_succ _) _))
  | true =>
    have HV := Lib.hid (fun W => valid_c (a, b) W)
    have HW := Lib.hid (fun W => window_c (a, b) W hv)
    rw [hv] at HV
    obtain ⟨⟨x, y⟩, hxy⟩ : ∃ q, winF (a, b) = q := ⟨_, rfl⟩
    have HE : Hid (∀ W, Ext w W → WinRet w (a, b) (.returned (.tuple #[.int .i64 x, .int .i64 y, .agg #[.int .i64 0, .int .i64 0]])) W) := Lib.hid (fun W x => ⟨x, by rw [if_pos hv, hxy]; rfl⟩)
    rw [hxy] at HW
    have HXA := Lib.hid XA
    have HBA := Lib.hid HB0
    have HMA := Lib.hid HM0
    clear hv XA HB0 HM0 hsz hxy
    go_enter Try.func9, Try.ntmps9
    go_upto_region 4 with (first | (go_at_call 24; refine (HV.out _).mono ?_; rintro e w2 ⟨rfl, hx2⟩; have HX2 := Lib.hid hx2; have m0 : w2.cell? ⟨w.heap.size, 0, none⟩ = some (.int .i64 a) := blk_cell (ext_heap hx2 HMA.out) 0; have m1 : w2.cell? ⟨w.heap.size, 1, none⟩ = some (.int .i64 b) := blk_cell (ext_heap hx2 HMA.out) 1; clear hx2) | (go_at_call 26; refine (HW.out _).mono ?_; rintro e w3 ⟨rfl, hx3⟩; have HX3 := Lib.hid hx3; clear hx3))
    have rbf := run_build_f
    have HB := Lib.hid (ext_heap (HX2.out.trans HX3.out) HBA.out)
    obtain ⟨d0, d1, e0, e1⟩ := Blk2.mk' HB.out
    go_wp2
    exact bodyPost_ret (results_ttc Try.results9 _ _ (w.heap.size + 1) 26 #[.int .i64 0, .int .i64 0] (0, 0) _ rfl (fblk_set HB.out) Try.underlying26 rfl sizeF) rfl (HE.out _ (ext_set2 (HXA.out.trans (HX2.out.trans HX3.out)) (Nat.le_succ _) _ _))
end Go.Proofs.Ytnijfndpefkoeaa
