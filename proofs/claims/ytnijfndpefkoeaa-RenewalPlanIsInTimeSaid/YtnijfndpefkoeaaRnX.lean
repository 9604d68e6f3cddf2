import Derived.Test.YtnijfndpefkoeaaRnW
import Derived.Test.YtnijfndpefkoeaaRenH
namespace Go.Proofs.Ytnijfndpefkoeaa
open Go Go.Proofs Go.RowKit
open Ren (planF)
set_option maxHeartbeats 6400000
set_option maxRecDepth 100000
theorem run_build_f (w : World) : (Instr.build 26 #[]).run Try.prog w = .ok (.agg #[.int .i64 0, .int .i64 0]) w := by kernel_rfl
/-- What Capacity returns. -/
def CapRet (w : World) (L : List (Int × Int)) (e : Ending) (w' : World) : Prop :=
  Ext w w' ∧ ((faultM L ≠ (0, 0) ∧ e = .returned (.tuple #[.int .i64 0, fAgg (faultM L)])) ∨
    (faultM L = (0, 0) ∧ ∃ k : Nat, e = .returned (.tuple #[.int .i64 (k : Int), fAgg (0, 0)]) ∧ 1 ≤ k ∧ k ≤ 60 ∧ (planF (wsF L) k).isSome = true ∧ ∀ m, 1 ≤ m → m < k → planF (wsF L) m = none))
theorem plan_60 {L : List (Int × Int)} (hok : ∀ p ∈ L, okM p = true) {k : Nat} (hl : L.length ≤ k) (hk : 1 ≤ k) : (planF (wsF L) k).isSome = true :=
  (Ren.plan_iff (ws_ok hok) hk).2 (Ren.possible_all (by rw [ws_len]; exact hl))
theorem Cap_bad (A : Option Addr) (L : List (Int × Int)) (c : Nat) (w : World) (hl : L.length ≤ maxLen) (h1 : Prs w A L) (hf : faultM L ≠ (0, 0)) : Calls Try.prog 20 #[.slice A L.length c] w (CapRet w L) := by
  obtain ⟨fc, fi, hfe⟩ : ∃ fc fi, faultM L = (fc, fi) := ⟨_, _, rfl⟩
  have q2 := faultM_ne hfe hf
  have q1 : (fc == 0) = false := by simpa using q2
  have hck := fun (W : World) (x : Ext w W) => check_c A L c W hl (h1.ext x)
  have HE : Hid (∀ W, Ext w W → CapRet w L (.returned (.tuple #[.int .i64 0, fAgg (fc, fi)])) W) := Lib.hid (fun W x => ⟨x, .inl ⟨hf, by rw [hfe]⟩⟩)
  rw [hfe] at hck
  have HC := Lib.hid hck
  clear hck hfe hf h1 hl
  go_enter Try.func20, Try.ntmps20
  go_wp2_with fail
  refine (HC.out _ ((Ext.refl w).alloc _)).mono ?_
  rintro e w1 ⟨rfl, hx1⟩
  have HX := Lib.hid (((Ext.refl w).alloc (.cells #[.int .i64 0, .int .i64 0] 26)).trans hx1)
  have HBK := Lib.hid (ext_heap hx1 (heap_alloc_new w (.cells #[.int .i64 0, .int .i64 0] 26)))
  obtain ⟨c0, c1, f0, f1⟩ := Blk2.mk' HBK.out
  have hlt : w.heap.size < w1.heap.size := (Array.getElem?_eq_some_iff.1 HBK.out).1
  clear hx1
  simp only [fAgg]
  go_wp2
  go_region
  all_goals go_wp2
  all_goals refine bodyPost_ret (results_tc Try.results20 _ _ w.heap.size 26 #[.int .i64 fc, .int .i64 fi] (0, 0) _ rfl (fblk_fin HBK.out _) Try.underlying26 rfl sizeF) rfl (HE.out _ (Ext.drew (Ext.alloc (ext_set2 HX.out (Nat.le_refl _) _ _) _)))
theorem Cap_ok (A : Option Addr) (L : List (Int × Int)) (c : Nat) (w : World) (hl : L.length ≤ maxLen) (h1 : Prs w A L) (hf : faultM L = (0, 0)) : Calls Try.prog 20 #[.slice A L.length c] w (CapRet w L) := by
  have hok := faultM_ok hf
  have hck := fun (W : World) (x : Ext w W) => check_c A L c W hl (h1.ext x)
  rw [hf] at hck
  have HC := Lib.hid hck
  have HPC := Lib.hid (fun (W : World) (x : Ext w W) (k : Nat) (hk : 1 ≤ k) (hk2 : k ≤ 60) => plan_c A L c k W hok.1 (h1.ext x) hok.2 hk hk2)
  have H60 : Hid (∀ k, k = 60 → (planF (wsF L) k).isSome = true) := Lib.hid (fun k hk => plan_60 hok.2 (by rw [hk]; exact hok.1) (by omega))
  have HE : Hid (∀ W (k : Nat), Ext w W → 1 ≤ k → k ≤ 60 → (planF (wsF L) k).isSome = true → (∀ m, 1 ≤ m → m < k → planF (wsF L) m = none) → CapRet w L (.returned (.tuple #[.int .i64 (k : Int), fAgg (0, 0)])) W) := Lib.hid (fun W k x a b c d => ⟨x, .inr ⟨hf, k, rfl, a, b, c, d⟩⟩)
  obtain ⟨n, hn⟩ : ∃ n, n = L.length := ⟨_, rfl⟩
  rw [← hn] at HC HPC ⊢
  clear hck hf h1 hl hok hn
  go_enter Try.func20, Try.ntmps20
  go_upto_region 1 with (fail)
  go_cut [3, 4] (fun s5 s6 wx => ∃ g6, s5 = .pointer (some ⟨w.heap.size, 0, none⟩) ∧ s6 = .pointer (some ⟨g6, 0, none⟩) ∧ wx.heap[w.heap.size]? = some (.cells #[.int .i64 0, .int .i64 0] 26 (0, 0)) ∧ wx.heap[g6]? = some (.cells #[.int .i64 0, .int .i64 0] 26 (0, 0)) ∧ Ext w wx)
  case first =>
    go_wp2_with fail
    refine (HC.out _ ((Ext.refl w).alloc _)).mono ?_
    rintro e w1 ⟨rfl, hx1⟩
    have HX := Lib.hid (((Ext.refl w).alloc (.cells #[.int .i64 0, .int .i64 0] 26)).trans hx1)
    have HBK := Lib.hid (ext_heap hx1 (heap_alloc_new w (.cells #[.int .i64 0, .int .i64 0] 26)))
    have HZ := Lib.hid (heap_alloc_new w1 (.cells #[.int .i64 0, .int .i64 0] 26))
    clear hx1
    simp only [fAgg]
    go_wp2_with (refine wpList_store_row rfl 26 _ _ rfl w1.heap.size #[.int .i64 0, .int .i64 0] rfl rfl 26 _ HZ.out sizeF rfl (by kernel_rfl) ?_)
    go_meet
    have X : Ext w1 ((w1.alloc (.cells #[.int .i64 0, .int .i64 0] 26)).setRow w1.heap.size #[.int .i64 0, .int .i64 0]) := ((Ext.refl w1).alloc _).setRow (Nat.le_refl _) _
    exact ⟨_, rfl, rfl, ext_heap X HBK.out, setRow_heap _ _ _ _ _ _ HZ.out, HX.out.trans X⟩
  obtain ⟨g6, rfl, rfl, hb5, hb6, hx⟩ := hcut
  obtain ⟨wa, rfl⟩ : ∃ wa : World, wa = wc := ⟨_, rfl⟩
  have HB5 := Lib.hid hb5
  have HX := Lib.hid hx
  obtain ⟨c0, c1, f0, f1⟩ := Blk2.mk' hb6
  clear hb5 hb6 hx
  go_wp2
  go_loopw [5] (fun t5 wx => ∃ k : Nat, t5 = .int .i64 (k : Int) ∧ 1 ≤ k ∧ k ≤ 60 ∧ Hid (∀ m, 1 ≤ m → m < k → planF (wsF L) m = none) ∧ Ext wa wx) (fun t5 _ => 60 - (intOf t5).toNat)
  case atStart => exact ⟨1, rfl, by omega, by omega, Lib.hid (fun m h1 h2 => by omega), Ext.refl wa⟩
  case round =>
    obtain ⟨k, rfl, hk1, hk2, hno, hx⟩ := hrel
    have HNO := Lib.hid hno.out
    have HXR := Lib.hid hx
    have HP := Lib.hid (HPC.out wr (HX.out.trans hx) k hk1 hk2)
    clear hno hx
    cases hpf : planF (wsF L) k with
    | none =>
      have hk60 : k ≠ 60 := fun q => by have := H60.out k q; rw [hpf] at this; cases this
      have HN2 : Hid (∀ m, 1 ≤ m → m < k + 1 → planF (wsF L) m = none) := Lib.hid (fun m h1 h2 => by
        by_cases e : m = k
        · rw [e]; exact hpf
        · exact HNO.out m h1 (by omega))
      rw [hpf] at HP
      clear hpf
      go_wp2_with (go_at_call 28; refine HP.out.mono ?_; rintro e w2 ⟨rfl, hx2⟩; have HX2 := Lib.hid hx2; clear hx2)
      go_roundw
      case rel => exact ⟨k + 1, by go_num, by omega, by omega, HN2, HXR.out.trans HX2.out⟩
      case measure => simp [intOf]; omega
    | some ys =>
      have HSM : Hid ((planF (wsF L) k).isSome = true) := Lib.hid (by rw [hpf]; rfl)
      rw [hpf] at HP
      clear hpf
      go_upto_region 8 with (go_at_call 28; refine HP.out.mono ?_; rintro e w2 ⟨A7, c7, rfl, _, _, _, hx2⟩; have HX2 := Lib.hid hx2; clear hx2)
      have HB := Lib.hid (ext_heap (HXR.out.trans HX2.out) HB5.out)
      obtain ⟨d0, d1, e0, e1⟩ := Blk2.mk' HB.out
      have hltb : w.heap.size < w2.heap.size := (Array.getElem?_eq_some_iff.1 HB.out).1
      have rbf := run_build_f
      go_wp2
      exact bodyPost_ret (results_tc Try.results20 _ _ w.heap.size 26 #[.int .i64 0, .int .i64 0] (0, 0) _ rfl (fblk_set HB.out) Try.underlying26 rfl sizeF) rfl (HE.out _ k ((HX.out.trans (HXR.out.trans HX2.out)).trans (ext_same HB.out)) hk1 hk2 HSM.out HNO.out)
theorem Cap_c (A : Option Addr) (L : List (Int × Int)) (c : Nat) (w : World) (hl : L.length ≤ maxLen) (h1 : Prs w A L) : Calls Try.prog 20 #[.slice A L.length c] w (CapRet w L) := by
  by_cases hf : faultM L = (0, 0)
  · exact Cap_ok A L c w hl h1 hf
  · exact Cap_bad A L c w hl h1 hf
/-- Window. -/
def WinRet (w : World) (p : Int × Int) (e : Ending) (w' : World) : Prop :=
  Ext w w' ∧ if okM p = true then e = .returned (.tuple #[.int .i64 (winF p).1, .int .i64 (winF p).2, fAgg (0, 0)]) else e = .returned (.tuple #[.int .i64 0, .int .i64 0, fAgg (4, -1)])
end Go.Proofs.Ytnijfndpefkoeaa
