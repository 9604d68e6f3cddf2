import Derived.Test.YtbaahbpianingaaDoorStepD
import Derived.Laws.CopyOwn
namespace Go.Proofs.YtbaahbpianingaaDoor
open Go Go.Proofs Go.RowKit
open Acc (Dk red five)
set_option maxHeartbeats 3200000
set_option maxRecDepth 100000
def startG (l m : List Int) : Dk × (Int × Int) :=
  if faultW l = (0, 0) then (if 1000 < m.length then (dk0, (3, -2)) else ({ dk0 with words := l ++ List.replicate (100 - l.length) 0, input := m }, (0, 0))) else (dk0, faultW l)
/-- The two blocks of the results. -/
structure Two (w wx : World) : Prop where
  g0 : wx.heap[w.heap.size]? = some (.cells zeroDk 25 (0, 0))
  g1 : wx.heap[w.heap.size + 1]? = some (.cells #[.int .i64 0, .int .i64 0] 28 (0, 0))
  x : Ext w wx
theorem Two.ext {w wx w1 : World} (h : Two w wx) (e : Ext wx w1) : Two w w1 := ⟨ext_heap e h.g0, ext_heap e h.g1, h.x.trans e⟩
theorem Two.lt {w wx : World} (h : Two w wx) : w.heap.size + 1 < wx.heap.size := (Array.getElem?_eq_some_iff.1 h.g1).1
theorem two_mk (w : World) : Two w ((w.alloc (.cells zeroDk 25)).alloc (.cells #[.int .i64 0, .int .i64 0] 28)) :=
  ⟨heap_alloc2_old w _ _, heap_alloc2_new w _ _, ((Ext.refl w).alloc _).alloc _⟩
theorem two_fin {w W : World} {c i : Int} (h : Two w W) : SRet w (dk0, (c, i)) (.returned (.tuple #[.agg zeroDk, .agg #[.int .i64 c, .int .i64 i]])) ((W.setRow w.heap.size zeroDk).setRow (w.heap.size + 1) #[.int .i64 c, .int .i64 i]) :=
  ⟨zeroDk, rfl, fun F _ => zero_is F, (h.x.setRow (by omega) _).setRow (by omega) _⟩
theorem faultW_ne {l : List Int} {c i : Int} (h : faultW l = (c, i)) (hn : faultW l ≠ (0, 0)) : (c == 0) = false := by
  unfold faultW at h hn
  split at h
  · cases h; rfl
  · rename_i h1
    rw [if_neg h1] at hn
    split at h
    · cases h; rfl
    · rename_i h2; rw [if_neg h2] at hn; exact absurd rfl hn
theorem start_bad (A B : Option Addr) (l m : List Int) (c' d' : Nat) (w : World) (hl : l.length ≤ maxLen) (h1 : Sl w .i64 A l) (hf : faultW l ≠ (0, 0)) :
    Calls Tryd.prog 12 #[.slice A l.length c', .slice B m.length d'] w (SRet w (startG l m)) := by
  have he : startG l m = (dk0, faultW l) := by unfold startG; rw [if_neg hf]
  rw [he]
  have HC := Lib.hid (fun (W : World) (hx : Ext w W) => checkWords_c A l c' W hl (h1.ext hx))
  obtain ⟨p, hp⟩ : ∃ p, faultW l = p := ⟨_, rfl⟩
  obtain ⟨c, i⟩ := p
  have q1 := faultW_ne hp hf
  have q2 : ¬ c = 0 := by simpa using q1
  rw [hp] at HC ⊢
  clear hp he hf h1
  go_enter Tryd.func12, Tryd.ntmps12
  go_upto_region 0 with (fail)
  go_cut [4, 5] (fun s4 s5 wx => s4 = .pointer (some ⟨w.heap.size, 0, none⟩) ∧ s5 = .pointer (some ⟨w.heap.size + 1, 0, none⟩) ∧ Two w wx)
  case first =>
    go_wp2_with (refine wpList_allocS rfl rfl ?_)
    go_meet
    exact ⟨rfl, rfl, two_mk w⟩
  case rest =>
    obtain ⟨rfl, rfl, htw⟩ := hcut
    have HT := Lib.hid htw
    clear htw
    go_wp2_with fail
    refine (HC.out wc HT.out.x).mono ?_
    rintro e w1 ⟨rfl, hx1⟩
    have HT1 := Lib.hid (HT.out.ext hx1)
    have hlt1 := HT1.out.lt
    clear hx1
    simp only [fAgg]
    go_upto_region 3 with (fail)
    have HT2 := Lib.hid ((HT1.out.ext ((Ext.refl w1).alloc (.cells #[.int .i64 c, .int .i64 i] 28))).ext ((Ext.refl _).drew))
    have HF0 := Lib.hid (heap_alloc_new w1 (.cells #[.int .i64 c, .int .i64 i] 28))
    refine wp_region_any (by kernel_rfl) ?_
    refine wpAny_take (i := 0) (v := .agg zeroDk) rfl (by kernel_rfl) (by kernel_rfl) (by kernel_rfl) (fun _ _ _ h => h) (Or.inl ⟨by rfl, fun w => ?_⟩) ?_
    · kernel_rfl
    refine wpAny_ready (rs := [1, 2]) (by kernel_rfl) (by simp) ?_
    refine (AllReady.cons rfl (fun K hK => ?_) (AllReady.cons rfl (fun K hK => ?_) AllReady.nil))
    · refine step_load_row rfl 28 _ rfl w1.heap.size (by first | (simp [Act.eval]; done) | simp [Act.eval, Act.put]) 28 #[.int .i64 c, .int .i64 i] (0, 0) _ (by first | exact HF0.out | exact (setRow_other _ _ _ _ (by omega)).trans HF0.out) Tryd.underlying28 rfl sizeF ?_
      refine hK _ _ ?_
      clear hK K
      refine wpAny_ready (rs := [2]) (by kernel_rfl) (by simp) ?_
      refine (AllReady.cons rfl (fun K hK => ?_) AllReady.nil)
      · refine step_store_row rfl 25 _ _ rfl w.heap.size zeroDk (by first | (simp [Act.eval]; done) | simp [Act.eval, Act.put]) (by first | (simp [Act.eval]; done) | simp [Act.eval, Act.put]) 25 zeroDk HT2.out.g0 sizeS rfl zero_one ?_
        refine hK _ _ ?_
        clear hK K
        refine wpAny_ready (rs := [3]) (by kernel_rfl) (by simp) ?_
        refine (AllReady.cons rfl (fun K hK => ?_) AllReady.nil)
        · refine step_store_row rfl 28 _ _ rfl (w.heap.size + 1) #[.int .i64 c, .int .i64 i] (by first | (simp [Act.eval]; done) | simp [Act.eval, Act.put]) (by first | (simp [Act.eval]; done) | simp [Act.eval, Act.put]) 28 _ ((setRow_other _ _ _ _ (by omega)).trans HT2.out.g1) sizeF rfl (by kernel_rfl) ?_
          refine hK _ _ ?_
          clear hK K
          refine wpAny_done (by kernel_rfl) ?_ _
          go_wp2_with fail
          refine bodyPost_ret (results_two rfl _ _ w.heap.size (w.heap.size + 1) 25 28 zeroDk #[.int .i64 c, .int .i64 i] (0, 0) (0, 0) _ _ rfl ?_ Tryd.underlying25 rfl sizeS rfl ?_ Tryd.underlying28 rfl sizeF) rfl (two_fin HT2.out)
          · rw [setRow_other _ _ _ _ (by omega)]; exact setRow_heap _ _ _ _ _ _ HT2.out.g0
          · exact setRow_heap _ _ _ _ _ _ ((setRow_other _ _ _ _ (by omega)).trans HT2.out.g1)
    · refine step_store_row rfl 25 _ _ rfl w.heap.size zeroDk (by first | (simp [Act.eval]; done) | simp [Act.eval, Act.put]) (by first | (simp [Act.eval]; done) | simp [Act.eval, Act.put]) 25 zeroDk HT2.out.g0 sizeS rfl zero_one ?_
      refine hK _ _ ?_
      clear hK K
      refine wpAny_ready (rs := [1]) (by kernel_rfl) (by simp) ?_
      refine (AllReady.cons rfl (fun K hK => ?_) AllReady.nil)
      · refine step_load_row rfl 28 _ rfl w1.heap.size (by first | (simp [Act.eval]; done) | simp [Act.eval, Act.put]) 28 #[.int .i64 c, .int .i64 i] (0, 0) _ (by first | exact HF0.out | exact (setRow_other _ _ _ _ (by omega)).trans HF0.out) Tryd.underlying28 rfl sizeF ?_
        refine hK _ _ ?_
        clear hK K
        refine wpAny_ready (rs := [3]) (by kernel_rfl) (by simp) ?_
        refine (AllReady.cons rfl (fun K hK => ?_) AllReady.nil)
        · refine step_store_row rfl 28 _ _ rfl (w.heap.size + 1) #[.int .i64 c, .int .i64 i] (by first | (simp [Act.eval]; done) | simp [Act.eval, Act.put]) (by first | (simp [Act.eval]; done) | simp [Act.eval, Act.put]) 28 _ ((setRow_other _ _ _ _ (by omega)).trans HT2.out.g1) sizeF rfl (by kernel_rfl) ?_
          refine hK _ _ ?_
          clear hK K
          refine wpAny_done (by kernel_rfl) ?_ _
          go_wp2_with fail
          refine bodyPost_ret (results_two rfl _ _ w.heap.size (w.heap.size + 1) 25 28 zeroDk #[.int .i64 c, .int .i64 i] (0, 0) (0, 0) _ _ rfl ?_ Tryd.underlying25 rfl sizeS rfl ?_ Tryd.underlying28 rfl sizeF) rfl (two_fin HT2.out)
          · rw [setRow_other _ _ _ _ (by omega)]; exact setRow_heap _ _ _ _ _ _ HT2.out.g0
          · exact setRow_heap _ _ _ _ _ _ ((setRow_other _ _ _ _ (by omega)).trans HT2.out.g1)
end Go.Proofs.YtbaahbpianingaaDoor
