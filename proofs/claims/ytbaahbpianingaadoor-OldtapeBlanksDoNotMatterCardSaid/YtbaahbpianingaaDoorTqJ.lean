import Derived.Test.YtbaahbpianingaaDoorTqI
namespace Go.Proofs.YtbaahbpianingaaDoor
open Go Go.Proofs Go.RowKit
open Tape (Rule Ts)
set_option maxHeartbeats 3200000
set_option maxRecDepth 100000
theorem SlAt.heapT {w F : World} {k : IntKind} {o : Option Value} {l : List Int} (h : SlAt w k o l) (hk : ∀ g, g < w.heap.size → F.heap[g]? = w.heap[g]?) : SlAt F k o l := by
  obtain ⟨A, c, h1, h2, h3, h4, h5⟩ := h
  refine ⟨A, c, h1, h2, h3, h4, fun i u hu => ?_⟩
  obtain ⟨a, ha, hc⟩ := h5 i u hu
  refine ⟨a, ha, ?_⟩
  have hlt := World.block_lt_of_cell? w _ hc
  rw [World.cell?_of_block (w := w) (hk _ hlt)]
  exact hc
theorem slc_heapT {w F : World} {A : Option Addr} {xs : List Value} (h : SlC w A xs) (hk : ∀ g, g < w.heap.size → F.heap[g]? = w.heap[g]?) : SlC F A xs := by
  intro i u hu
  obtain ⟨a, ha, hc⟩ := h i u hu
  refine ⟨a, ha, ?_⟩
  have hlt := World.block_lt_of_cell? w _ hc
  rw [World.cell?_of_block (w := w) (hk _ hlt)]
  exact hc
theorem TsIs.heap {w F : World} {cs : Array Value} {s : Ts} (h : TsIs w cs s) (hk : ∀ g, g < w.heap.size → F.heap[g]? = w.heap[g]?) : TsIs F cs s := by
  obtain ⟨A, c, h1, h2, h3, h4, h5⟩ := h.rules
  exact ⟨h.size, ⟨A, c, h1, h2, h3, h4, slc_heapT h5 hk⟩, h.cells.heapT hk, h.at_, h.state, h.stop, h.wf⟩
def bad2T (B g : Nat) : Prop := g = B ∨ g = B + 1
structure RanTI (w wr : World) (s : Ts) (n k : Nat) (sk : Ts) (ck : Array Value) : Prop where
  b1 : wr.heap[w.heap.size]? = some (.cells ck 54 (0, 0))
  b2 : wr.heap[w.heap.size + 1]? = some (.cells zeroTs 54 (0, 0))
  av : TsAv (bad2T w.heap.size) wr ck sk
  x : Ext w wr
  ok : Tape.Ok sk
  run : Tape.runF n s = ((Tape.runF (n - k) sk).1, (Tape.runF (n - k) sk).2 + k)
theorem RanTI.next {w wr w1 : World} {s : Ts} {n k : Nat} {sk : Ts} {ck c2 : Array Value} (h : RanTI w wr s n k sk ck) (hk : k < n) (hs : sk.stop = 0) (ha : TsAv (bad2T w.heap.size) w1 c2 (Tape.stepF sk)) (x : Ext wr w1) :
    RanTI w (w1.setRow w.heap.size c2) s n (k + 1) (Tape.stepF sk) c2 := by
  refine ⟨setRow_heap _ _ _ _ _ _ (ext_heap x h.b1), (setRow_other _ _ _ _ (by omega)).trans (ext_heap x h.b2), fun F hF => ha F fun g hg hl => ?_, (h.x.trans x).setRow (Nat.le_refl _) _, Tape.step_ok h.ok, ?_⟩
  · rw [hF g hg (by simpa [World.setRow] using hl), setRow_other _ _ _ _ (fun e => hg (.inl e))]
  · rw [h.run, show n - k = (n - (k + 1)) + 1 from by omega]
    simp only [Tape.runF, hs, if_true]
    rw [Nat.add_assoc, Nat.add_comm 1 k]
theorem RanTI.fin {w wr : World} {s : Ts} {n k : Nat} {sk : Ts} {ck : Array Value} (h : RanTI w wr s n k sk ck) (hk : ¬ (k < n ∧ sk.stop = 0)) : Tape.runF n s = (sk, k) := by
  rw [h.run]
  cases hn : n - k with
  | zero => simp [Tape.runF]
  | succ m =>
    have : ¬ sk.stop = 0 := fun hs => hk ⟨by omega, hs⟩
    simp [Tape.runF, this]
def TRanRet (w : World) (r : Ts × Nat) (e : Ending) (w' : World) : Prop := ∃ cs', e = .returned (.tuple #[.agg cs', .int .i64 (r.2 : Int)]) ∧ TsIs w' cs' r.1 ∧ Ext w w'
theorem tapeRan_c (cs : Array Value) (s : Ts) (N : Nat) (w : World) (h : TsIs w cs s) (hok : Tape.Ok s) (hN : N ≤ 60000) : Calls Tryd.prog 32 #[.agg cs, .int .i64 (N : Int)] w (TRanRet w (Tape.runF N s)) := by
  have HH := Lib.hid h
  have HOK := Lib.hid hok
  clear h hok
  go_enter Tryd.func32, Tryd.ntmps32
  go_upto_region 0 with (fail)
  go_cut [2, 4, 5] (fun s2 s4 s5 wx => s2 = .pointer (some ⟨w.heap.size, 0, none⟩) ∧ s4 = .pointer (some ⟨w.heap.size + 1, 0, none⟩) ∧ s5 = .int .i64 0 ∧ wx = (w.alloc (.cells cs 54)).alloc (.cells zeroTs 54))
  case first =>
    go_wp2_with (refine wpList_allocQ rfl rfl ?_)
    go_meet
    exact ⟨rfl, by simp, rfl, rfl⟩
  case rest =>
    obtain ⟨rfl, rfl, rfl, hwc⟩ := hcut
    have hxx : Ext w ((w.alloc (.cells cs 54)).alloc (.cells zeroTs 54)) := ((Ext.refl w).alloc _).alloc _
    have HI0 : Hid (RanTI w wc s N 0 s cs) := Lib.hid (by
      rw [hwc]
      exact ⟨heap_alloc2_old w _ _, heap_alloc2_new w _ _, fun F hF => HH.out.heap fun g hg => (hF g (fun hb => by rcases hb with hb | hb <;> omega) (Nat.lt_of_lt_of_le hg hxx.size)).trans (hxx.block g hg), hxx, HOK.out, by simp⟩)
    clear hwc hxx
    go_wp2
    go_loopw [6] (fun v6 wr => ∃ k : Nat, ∃ sk ck, k ≤ N ∧ v6 = .int .i64 k ∧ RanTI w wr s N k sk ck) (fun v6 _ => N - (intOf v6).toNat)
    case atStart => exact ⟨0, s, cs, Nat.zero_le _, rfl, HI0.out⟩
    case round =>
      obtain ⟨k, sk, ck, hk, rfl, hl⟩ := hrel
      have k38 : wr.cell? ⟨w.heap.size, 4, none⟩ = some (.int .i64 sk.stop) := (blk_cell hl.b1 4).trans hl.av.st.stop
      have HL := Lib.hid hl
      have HSK := Lib.hid hl.av.st.size
      by_cases hgo : k < N ∧ sk.stop = 0
      · obtain ⟨g1, g2⟩ := hgo
        have HG2 := Lib.hid g2
        rw [g2] at k38
        have hltr : w.heap.size + 1 < wr.heap.size := (Array.getElem?_eq_some_iff.1 hl.b2).1
        have HC := Lib.hid (tapeStep_c (bad2T w.heap.size) ck sk wr (fun g hg => by rcases hg with hg | hg <;> omega) hl.av hl.ok)
        clear hl g2
        go_wp2_with (refine wpList_load_row rfl 54 _ rfl w.heap.size rfl 54 ck (0, 0) _ HL.out.b1 Tryd.underlying54 rfl (by rw [HSK.out]; exact sizeQ) ?_)
        refine HC.out.mono ?_
        rintro e w1 ⟨c2, rfl, ha, hx1⟩
        have HN := Lib.hid (HL.out.next g1 HG2.out ha hx1)
        have HB := Lib.hid (ext_heap hx1 HL.out.b1)
        have HS2 := Lib.hid ha.st.size
        have HO2 := Lib.hid (tsq_one ha.st)
        clear ha hx1
        go_wp2_with (refine wpList_store_row rfl 54 _ _ rfl w.heap.size c2 rfl rfl 54 ck HB.out (by rw [HS2.out]; exact sizeQ) (by rw [HS2.out, HSK.out]) HO2.out ?_)
        refine ⟨⟨k + 1, Tape.stepF sk, c2, by omega, by go_num, HN.out⟩, by simp [intOf]; omega⟩
      · have HF := Lib.hid (hl.fin hgo)
        have HO := Lib.hid (tsq_one hl.av.st)
        have hcase : (N ≤ k) ∨ (k < N ∧ (sk.stop == 0) = false) := by
          by_cases q : k < N
          · right; exact ⟨q, by simp; intro h0; exact hgo ⟨q, h0⟩⟩
          · left; omega
        have HRET : Hid (TRanRet w (Tape.runF N s) (.returned (.tuple #[.agg ck, .int .i64 (k : Int)])) (wr.setRow (w.heap.size + 1) ck)) := Lib.hid (by
          rw [HF.out]
          exact ⟨ck, rfl, hl.av _ fun g hg _ => setRow_other _ _ _ _ (fun e => hg (.inr e)), hl.x.setRow (by omega) _⟩)
        clear hl hgo
        rcases hcase with hc1 | ⟨hc1, hc2⟩
        all_goals go_wp2_with (first | refine wpList_load_row rfl 54 _ rfl w.heap.size rfl 54 ck (0, 0) _ HL.out.b1 Tryd.underlying54 rfl (by rw [HSK.out]; exact sizeQ) ?_ | refine wpList_store_row rfl 54 _ _ rfl (w.heap.size + 1) ck rfl rfl 54 zeroTs HL.out.b2 (by rw [HSK.out]; exact sizeQ) (by rw [HSK.out]; rfl) HO.out ?_)
        all_goals (
          refine bodyPost_ret (results_ranT (p := 4) (u := 5) rfl _ _ (w.heap.size + 1) 54 ck (0, 0) _ rfl ?_ Tryd.underlying54 rfl (by rw [HSK.out]; exact sizeQ)) rfl HRET.out
          exact setRow_heap _ _ _ _ _ _ HL.out.b2)
end Go.Proofs.YtbaahbpianingaaDoor
