import Derived.Test.YtbaahbpianingaaDoorRunBad
namespace Go.Proofs.YtbaahbpianingaaDoor
open Go Go.Proofs Go.RowKit
open Acc (Dk red five)
set_option maxHeartbeats 3200000
set_option maxRecDepth 100000
theorem range_fin {w W : World} {cs : Array Value} {c i : Int} (h : Begun w W cs) : RunRet w (dk0, 0, (c, i)) (.returned (.tuple #[.agg zeroDk, .int .i64 0, .agg #[.int .i64 c, .int .i64 i]])) ((W.setRow (w.heap.size + 1) zeroDk).setRow (w.heap.size + 2) #[.int .i64 c, .int .i64 i]) :=
  ⟨zeroDk, rfl, fun F _ => zero_is F, (h.x.setRow (by omega) _).setRow (by omega) _⟩
theorem run_range (cs : Array Value) (s : Dk) (n : Int) (w : World) (h : DkIs w cs s) (hf : faultD s = (0, 0)) (hn : ¬ (0 ≤ n ∧ n ≤ 60000)) : Calls Tryd.prog 16 #[.agg cs, .int .i64 n] w (RunRet w (runG s n)) := by
  have he : runG s n = (dk0, 0, (4, -2)) := by unfold runG; rw [if_pos hf, if_neg hn]
  rw [he]
  have HV := Lib.hid (fun (W : World) (hx : Ext w W) => hf ▸ Valid_c cs s W (h.ext hx))
  have HS := Lib.hid h.size
  have hcs : n < 0 ∨ (0 ≤ n ∧ 60000 < n) := by omega
  clear hf he h hn
  rcases hcs with h1 | ⟨h1, h2⟩
  · go_enter Tryd.func16, Tryd.ntmps16
    go_upto_region 0 with (fail)
    go_cut [2, 4, 5, 6] (fun s2 s4 s5 s6 wx => s2 = .pointer (some ⟨w.heap.size, 0, none⟩) ∧ s4 = .pointer (some ⟨w.heap.size + 1, 0, none⟩) ∧ s5 = .int .i64 0 ∧ s6 = .pointer (some ⟨w.heap.size + 2, 0, none⟩) ∧ Begun w wx cs)
    case first =>
      go_wp2_with (refine wpList_allocS rfl rfl ?_)
      go_meet
      exact ⟨rfl, rfl, rfl, rfl, begun_mk w cs⟩
    case rest =>
      obtain ⟨rfl, rfl, rfl, rfl, hbg⟩ := hcut
      have HG0 := Lib.hid hbg.g0
      have HBG := Lib.hid hbg
      clear hbg
      go_wp2_with (refine wpList_load_row rfl 25 _ rfl w.heap.size rfl 25 cs (0, 0) _ HG0.out Tryd.underlying25 rfl (by rw [HS.out]; exact sizeS) ?_)
      refine (HV.out wc HBG.out.x).mono ?_
      rintro e w1 ⟨rfl, hx1⟩
      have hlt1 := (HBG.out.ext hx1).lt
      have HB1 := Lib.hid (HBG.out.ext hx1)
      clear hx1
      simp only [fAgg]
      have HB2 := Lib.hid ((HB1.out.ext ((Ext.refl w1).alloc (.cells #[.int .i64 0, .int .i64 0] 28))).ext ((Ext.refl _).alloc (.cells #[.int .i64 4, .int .i64 (-2)] 28)))
      have HB3 := Lib.hid ((setRow_other ((w1.alloc (.cells #[.int .i64 0, .int .i64 0] 28)).alloc (.cells #[.int .i64 4, .int .i64 (-2)] 28)) (w.heap.size + 1) (w.heap.size + 2) zeroDk (by omega)).trans HB2.out.g2)
      go_wp2_with (first | refine wpList_buildS rfl rfl ?_ | (go_at_call 40; refine (fault_c _ _ _).mono ?_; rintro e w' ⟨rfl, rfl⟩) | refine wpList_store_row rfl 25 _ _ rfl (w.heap.size + 1) zeroDk rfl rfl 25 zeroDk HB2.out.g1 sizeS rfl zero_one ?_ | refine wpList_store_row rfl 28 _ _ rfl (w.heap.size + 2) #[.int .i64 4, .int .i64 (-2)] rfl rfl 28 _ HB3.out sizeF rfl (by kernel_rfl) ?_)
      refine bodyPost_ret (results_run rfl _ _ (w.heap.size + 1) (w.heap.size + 2) 25 28 zeroDk #[.int .i64 4, .int .i64 (-2)] (0, 0) (0, 0) _ _ rfl ?_ Tryd.underlying25 rfl sizeS rfl ?_ Tryd.underlying28 rfl sizeF) rfl (range_fin HB2.out)
      · rw [setRow_other _ _ _ _ (by omega)]; exact setRow_heap _ _ _ _ _ _ HB2.out.g1
      · exact setRow_heap _ _ _ _ _ _ HB3.out
  · go_enter Tryd.func16, Tryd.ntmps16
    go_upto_region 0 with (fail)
    go_cut [2, 4, 5, 6] (fun s2 s4 s5 s6 wx => s2 = .pointer (some ⟨w.heap.size, 0, none⟩) ∧ s4 = .pointer (some ⟨w.heap.size + 1, 0, none⟩) ∧ s5 = .int .i64 0 ∧ s6 = .pointer (some ⟨w.heap.size + 2, 0, none⟩) ∧ Begun w wx cs)
    case first =>
      go_wp2_with (refine wpList_allocS rfl rfl ?_)
      go_meet
      exact ⟨rfl, rfl, rfl, rfl, begun_mk w cs⟩
    case rest =>
      obtain ⟨rfl, rfl, rfl, rfl, hbg⟩ := hcut
      have HG0 := Lib.hid hbg.g0
      have HBG := Lib.hid hbg
      clear hbg
      go_wp2_with (refine wpList_load_row rfl 25 _ rfl w.heap.size rfl 25 cs (0, 0) _ HG0.out Tryd.underlying25 rfl (by rw [HS.out]; exact sizeS) ?_)
      refine (HV.out wc HBG.out.x).mono ?_
      rintro e w1 ⟨rfl, hx1⟩
      have hlt1 := (HBG.out.ext hx1).lt
      have HB1 := Lib.hid (HBG.out.ext hx1)
      clear hx1
      simp only [fAgg]
      have HB2 := Lib.hid ((HB1.out.ext ((Ext.refl w1).alloc (.cells #[.int .i64 0, .int .i64 0] 28))).ext ((Ext.refl _).alloc (.cells #[.int .i64 4, .int .i64 (-2)] 28)))
      have HB3 := Lib.hid ((setRow_other ((w1.alloc (.cells #[.int .i64 0, .int .i64 0] 28)).alloc (.cells #[.int .i64 4, .int .i64 (-2)] 28)) (w.heap.size + 1) (w.heap.size + 2) zeroDk (by omega)).trans HB2.out.g2)
      go_wp2_with (first | refine wpList_buildS rfl rfl ?_ | (go_at_call 40; refine (fault_c _ _ _).mono ?_; rintro e w' ⟨rfl, rfl⟩) | refine wpList_store_row rfl 25 _ _ rfl (w.heap.size + 1) zeroDk rfl rfl 25 zeroDk HB2.out.g1 sizeS rfl zero_one ?_ | refine wpList_store_row rfl 28 _ _ rfl (w.heap.size + 2) #[.int .i64 4, .int .i64 (-2)] rfl rfl 28 _ HB3.out sizeF rfl (by kernel_rfl) ?_)
      refine bodyPost_ret (results_run rfl _ _ (w.heap.size + 1) (w.heap.size + 2) 25 28 zeroDk #[.int .i64 4, .int .i64 (-2)] (0, 0) (0, 0) _ _ rfl ?_ Tryd.underlying25 rfl sizeS rfl ?_ Tryd.underlying28 rfl sizeF) rfl (range_fin HB2.out)
      · rw [setRow_other _ _ _ _ (by omega)]; exact setRow_heap _ _ _ _ _ _ HB2.out.g1
      · exact setRow_heap _ _ _ _ _ _ HB3.out
end Go.Proofs.YtbaahbpianingaaDoor
