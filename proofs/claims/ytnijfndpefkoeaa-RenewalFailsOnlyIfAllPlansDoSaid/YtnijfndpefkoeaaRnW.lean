import Derived.Test.YtnijfndpefkoeaaRnN
import Derived.Test.YtnijfndpefkoeaaRnO
namespace Go.Proofs.Ytnijfndpefkoeaa
open Go Go.Proofs Go.RowKit
open Ren (planF)
set_option maxHeartbeats 6400000
set_option maxRecDepth 100000
def planP : Option (List Int) → List Int × (Int × Int)
  | none => ([], (12, -1))
  | some ys => (ys, (0, 0))
theorem ext_same {w : World} {g : Nat} {c i : Int} (h : w.heap[g]? = some (.cells #[.int .i64 c, .int .i64 i] 26 (0, 0))) : Ext w ((w.setCell ⟨g, 0, none⟩ (.int .i64 c)).setCell ⟨g, 1, none⟩ (.int .i64 i)) := by
  refine ⟨rfl, rfl, rfl, by simp [World.setCell], fun k _ => ?_⟩
  by_cases e : k = g
  · subst e
    rw [fblk_set h, h]
  · rw [Below.heap_setCell _ _ _ _ e, Below.heap_setCell _ _ _ _ e]
def planV (L : List (Int × Int)) (p : Int) : List Int × (Int × Int) :=
  if faultM L = (0, 0) then (if 1 ≤ p ∧ p ≤ 60 then planP (planF (wsF L) p.toNat) else ([], (4, -2))) else ([], faultM L)
/-- A list and a fault. -/
def LfRet (w : World) (r : List Int × (Int × Int)) (e : Ending) (w' : World) : Prop := ∃ A c, e = .returned (.tuple #[.slice A r.1.length c, fAgg r.2]) ∧ Sl w' .i64 A r.1 ∧ r.1.length ≤ maxLen ∧ Ext w w'
theorem lf_nil {w w' : World} {R : List Int × (Int × Int)} {p : Int × Int} (h : R = ([], p)) (hx : Ext w w') : LfRet w R (.returned (.tuple #[.slice none 0 0, fAgg p])) w' := by
  rw [h]
  exact ⟨none, 0, rfl, SlC.nil _ _, by simp [maxLen], hx⟩
theorem faultM_ne {L : List (Int × Int)} {c i : Int} (h : faultM L = (c, i)) (hf : faultM L ≠ (0, 0)) : c ≠ 0 := fun q => hf (faultM_code (by rw [h]; exact q))
theorem Plan_bad (A : Option Addr) (L : List (Int × Int)) (c : Nat) (p : Int) (w : World) (hl : L.length ≤ maxLen) (h1 : Prs w A L) (hf : faultM L ≠ (0, 0)) : Calls Try.prog 10 #[.slice A L.length c, .int .i64 p] w (LfRet w (planV L p)) := by
  have he : planV L p = ([], faultM L) := by unfold planV; rw [if_neg hf]
  obtain ⟨fc, fi, hfe⟩ : ∃ fc fi, faultM L = (fc, fi) := ⟨_, _, rfl⟩
  have q2 := faultM_ne hfe hf
  have q1 : (fc == 0) = false := by simpa using q2
  have hck := fun (W : World) (x : Ext w W) => check_c A L c W hl (h1.ext x)
  rw [hfe] at he hck
  rw [he]
  have HC := Lib.hid hck
  have HE := Lib.hid he
  clear he hck hfe hf h1 hl
  go_enter Try.func10, Try.ntmps10
  go_wp2_with fail
  refine (HC.out _ ((Ext.refl w).alloc _)).mono ?_
  rintro e w1 ⟨rfl, hx1⟩
  have HX := Lib.hid (((Ext.refl w).alloc (.cells #[.int .i64 0, .int .i64 0] 26)).trans hx1)
  have HBK := Lib.hid (ext_heap hx1 (heap_alloc_new w (.cells #[.int .i64 0, .int .i64 0] 26)))
  obtain ⟨c0, c1, f0, f1⟩ := Blk2.mk' HBK.out
  have hlt : w.heap.size < w1.heap.size := (Array.getElem?_eq_some_iff.1 HBK.out).1
  clear hx1
  simp only [fAgg]
  go_wp2
  go_region
  all_goals go_wp2
  all_goals refine bodyPost_ret (results_tc Try.results10 _ _ w.heap.size 26 #[.int .i64 fc, .int .i64 fi] (0, 0) _ rfl (fblk_fin HBK.out _) Try.underlying26 rfl sizeF) rfl (lf_nil rfl (Ext.drew (Ext.alloc (ext_set2 HX.out (Nat.le_refl _) _ _) _)))
theorem Plan_ok (A : Option Addr) (L : List (Int × Int)) (c : Nat) (p : Int) (w : World) (hl : L.length ≤ maxLen) (h1 : Prs w A L) (hf : faultM L = (0, 0)) : Calls Try.prog 10 #[.slice A L.length c, .int .i64 p] w (LfRet w (planV L p)) := by
  have hok := faultM_ok hf
  have hck := fun (W : World) (x : Ext w W) => check_c A L c W hl (h1.ext x)
  rw [hf] at hck
  have HC := Lib.hid hck
  have HPC := Lib.hid (fun (W : World) (x : Ext w W) (k : Nat) (hk : 1 ≤ k) (hk2 : k ≤ 60) => plan_c A L c k W hok.1 (h1.ext x) hok.2 hk hk2)
  obtain ⟨R, hR⟩ : ∃ R, R = planV L p := ⟨_, rfl⟩
  have HR : Hid (R = if 1 ≤ p ∧ p ≤ 60 then planP (planF (wsF L) p.toNat) else ([], (4, -2))) := Lib.hid (by rw [hR]; unfold planV; rw [if_pos hf])
  rw [← hR]
  have hl60 := hok.1
  obtain ⟨n, hn⟩ : ∃ n, n = L.length := ⟨_, rfl⟩
  rw [← hn] at HC HPC hl60 ⊢
  clear hck hf h1 hl hR hok hn
  go_enter Try.func10, Try.ntmps10
  go_upto_region 1 with (fail)
  go_cut [5, 6] (fun s5 s6 wx => ∃ g6, s5 = .pointer (some ⟨w.heap.size, 0, none⟩) ∧ s6 = .pointer (some ⟨g6, 0, none⟩) ∧ wx.heap[w.heap.size]? = some (.cells #[.int .i64 0, .int .i64 0] 26 (0, 0)) ∧ wx.heap[g6]? = some (.cells #[.int .i64 0, .int .i64 0] 26 (0, 0)) ∧ Ext w wx)
  case first =>
    go_wp2_with fail
    refine (HC.out _ ((Ext.refl w).alloc _)).mono ?_
    rintro e w1 ⟨rfl, hx1⟩
    have HX := Lib.hid (((Ext.refl w).alloc (.cells #[.int .i64 0, .int .i64 0] 26)).trans hx1)
    have HBK := Lib.hid (ext_heap hx1 (heap_alloc_new w (.cells #[.int .i64 0, .int .i64 0] 26)))
    have HZ := Lib.hid (heap_alloc_new w1 (.cells #[.int .i64 0, .int .i64 0] 26))
    clear hx1
    simp only [fAgg]
    go_wp2_with (refine wpList_store_row rfl 26 _ _ rfl w1.heap.size #[.int .i64 0, .int .i64 0] rfl rfl 26 _ HZ.out sizeF rfl (by kernel_rfl) ?_)
    go_meet
    have X : Ext w1 ((w1.alloc (.cells #[.int .i64 0, .int .i64 0] 26)).setRow w1.heap.size #[.int .i64 0, .int .i64 0]) := ((Ext.refl w1).alloc _).setRow (Nat.le_refl _) _
    exact ⟨_, rfl, rfl, ext_heap X HBK.out, setRow_heap _ _ _ _ _ _ HZ.out, HX.out.trans X⟩
  obtain ⟨g6, rfl, rfl, hb5, hb6, hx⟩ := hcut
  obtain ⟨wa, rfl⟩ : ∃ wa : World, wa = wc := ⟨_, rfl⟩
  have HB5 := Lib.hid hb5
  have HX := Lib.hid hx
  obtain ⟨c0, c1, f0, f1⟩ := Blk2.mk' hb6
  have hlt : w.heap.size < wa.heap.size := (Array.getElem?_eq_some_iff.1 hb5).1
  clear hb5 hb6 hx
  by_cases hp : 1 ≤ p ∧ p ≤ 60
  · obtain ⟨k, hk⟩ : ∃ k : Nat, p = k := ⟨p.toNat, by omega⟩
    subst hk
    have hk1 : 1 ≤ k := by omega
    have hk2 : k ≤ 60 := by omega
    have HR2 : Hid (R = planP (planF (wsF L) k)) := Lib.hid (by rw [HR.out, if_pos hp, Int.toNat_natCast])
    have HP := Lib.hid (HPC.out wa HX.out k hk1 hk2)
    clear hp HR
    go_upto_region 6 with (fail)
    cases hpf : planF (wsF L) k with
    | none =>
      rw [hpf] at HP HR2
      go_cut [7, 8] (fun s7 s8 wx => s8 = .bool false ∧ Ext wa wx)
      case first =>
        go_wp2_with fail
        refine HP.out.mono ?_
        rintro e w2 ⟨rfl, hx2⟩
        go_wp2
        go_meet
        exact ⟨rfl, hx2⟩
      obtain ⟨rfl, hx2⟩ := hcut
      obtain ⟨wb, rfl⟩ : ∃ wb : World, wb = wc := ⟨_, rfl⟩
      have HB := Lib.hid (ext_heap (hx2.trans ((Ext.refl wb).alloc (.cells #[.int .i64 12, .int .i64 (-1)] 26))) HB5.out)
      have HXX := Lib.hid (HX.out.trans (hx2.trans ((Ext.refl wb).alloc (.cells #[.int .i64 12, .int .i64 (-1)] 26))))
      clear hx2 c0 c1 f0 f1 hlt
      go_wp2_with (first | (go_at_call 25; refine (tfault_c _ _ _).mono ?_; rintro e w' ⟨rfl, rfl⟩) | refine wpList_store_row rfl 26 _ _ rfl w.heap.size #[.int .i64 12, .int .i64 (-1)] rfl rfl 26 _ HB.out sizeF rfl (by kernel_rfl) ?_)
      refine bodyPost_ret (results_tc Try.results10 _ _ w.heap.size 26 #[.int .i64 12, .int .i64 (-1)] (0, 0) _ rfl (setRow_heap _ _ _ _ _ _ HB.out) Try.underlying26 rfl sizeF) rfl (lf_nil HR2.out (HXX.out.setRow (Nat.le_refl _) _))
    | some ys =>
      rw [hpf] at HP HR2
      go_cut [7, 8] (fun s7 s8 wx => ∃ A7 c7, s7 = .slice A7 ys.length c7 ∧ s8 = .bool true ∧ Sl wx .i64 A7 ys ∧ ys.length ≤ maxLen ∧ Ext wa wx)
      case first =>
        go_wp2_with fail
        refine HP.out.mono ?_
        rintro e w2 ⟨A7, c7, rfl, hs, hc1, hc2, hx2⟩
        go_wp2
        go_meet
        exact ⟨A7, c7, rfl, rfl, hs, Nat.le_trans hc1 hc2, hx2⟩
      obtain ⟨A7, c7, rfl, rfl, hs, hcm, hx2⟩ := hcut
      obtain ⟨wb, rfl⟩ : ∃ wb : World, wb = wc := ⟨_, rfl⟩
      have HB := Lib.hid (ext_heap hx2 HB5.out)
      have HXX := Lib.hid (HX.out.trans hx2)
      have HS := Lib.hid hs
      have HCM := Lib.hid hcm
      obtain ⟨d0, d1, e0, e1⟩ := Blk2.mk' HB.out
      have hltb : w.heap.size < wb.heap.size := (Array.getElem?_eq_some_iff.1 HB.out).1
      obtain ⟨m, hm⟩ : ∃ m, m = ys.length := ⟨_, rfl⟩
      have HM := Lib.hid hm
      rw [← hm]
      have HF : Hid (∀ W, Ext wb W → LfRet w R (.returned (.tuple #[.slice A7 m c7, fAgg (0, 0)])) W) := Lib.hid (fun W x => by rw [HR2.out]; exact ⟨A7, c7, by rw [HM.out]; rfl, HS.out.ext x, HCM.out, HXX.out.trans x⟩)
      clear hx2 hs hcm c0 c1 f0 f1 hlt hm hpf
      go_wp2
      exact bodyPost_ret (results_tc Try.results10 _ _ w.heap.size 26 #[.int .i64 0, .int .i64 0] (0, 0) _ rfl (fblk_set HB.out) Try.underlying26 rfl sizeF) rfl (HF.out _ (ext_same HB.out))
  · have HR2 : Hid (R = ([], (4, -2))) := Lib.hid (by rw [HR.out, if_neg hp])
    have HB := Lib.hid (ext_heap ((Ext.refl wa).alloc (.cells #[.int .i64 4, .int .i64 (-2)] 26)) HB5.out)
    have HXX := Lib.hid (HX.out.trans ((Ext.refl wa).alloc (.cells #[.int .i64 4, .int .i64 (-2)] 26)))
    go_upto_region 4 with (fail)
    go_cut [20] (fun s20 wx => s20 = .bool true ∧ wa = wx)
    case first =>
      by_cases hp1 : p < 1
      · have e1 : decide (p < 1) = true := decide_eq_true hp1
        go_wp2
        go_meet
        exact ⟨by first | rfl | simp [hp1], rfl⟩
      · have e1 : decide (p < 1) = false := decide_eq_false hp1
        have hp2 : p > 60 := by omega
        have e2 : decide (p > 60) = true := decide_eq_true hp2
        go_wp2
        go_meet
        exact ⟨by first | rfl | simp [e2], rfl⟩
    obtain ⟨rfl, rfl⟩ := hcut
    clear c0 c1 f0 f1 hlt hp
    go_wp2_with (first | (go_at_call 25; refine (tfault_c _ _ _).mono ?_; rintro e w' ⟨rfl, rfl⟩) | refine wpList_store_row rfl 26 _ _ rfl w.heap.size #[.int .i64 4, .int .i64 (-2)] rfl rfl 26 _ HB.out sizeF rfl (by kernel_rfl) ?_)
    refine bodyPost_ret (results_tc Try.results10 _ _ w.heap.size 26 #[.int .i64 4, .int .i64 (-2)] (0, 0) _ rfl (setRow_heap _ _ _ _ _ _ HB.out) Try.underlying26 rfl sizeF) rfl (lf_nil HR2.out (HXX.out.setRow (Nat.le_refl _) _))
theorem Plan_c (A : Option Addr) (L : List (Int × Int)) (c : Nat) (p : Int) (w : World) (hl : L.length ≤ maxLen) (h1 : Prs w A L) : Calls Try.prog 10 #[.slice A L.length c, .int .i64 p] w (LfRet w (planV L p)) := by
  by_cases hf : faultM L = (0, 0)
  · exact Plan_ok A L c p w hl h1 hf
  · exact Plan_bad A L c p w hl h1 hf
end Go.Proofs.Ytnijfndpefkoeaa
