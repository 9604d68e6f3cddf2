import Derived.Test.YtpooedfchjpndaaDoorStepRq0
import Derived.Test.YtpooedfchjpndaaDoorStepRq1
import Derived.Test.YtpooedfchjpndaaDoorStepRq2
import Derived.Test.YtpooedfchjpndaaDoorStepRq3
import Derived.Test.YtpooedfchjpndaaDoorStepRq4
namespace Go.Proofs.YtpooedfchjpndaaDoor
open Go Go.Proofs Go.RowKit
set_option maxHeartbeats 3200000
set_option maxRecDepth 100000
theorem stepR_all (bad : Nat → Prop) (cs : Array Value) (s : St) (w : World) (hbad : ∀ g, bad g → g < w.heap.size) (h : StAv bad w cs s) (hok : OkSt s) : Calls Tryd.prog 26 #[.agg cs] w (SpRet bad w (stepF s)) := by
  by_cases hz : stopOf s = 0
  · have hg := goesOn hok hz
    obtain ⟨x, hx⟩ : ∃ x, opOf s = x := ⟨_, rfl⟩
    rw [hx] at hg
    have h0 := hg.x0
    have h1 := hg.x1
    by_cases h6 : 6 ≤ x ∧ x ≤ 15
    · exact stepR_6 bad cs s w hbad h hok hz x h6.1 h6.2 hg
    obtain rfl | rfl | rfl | rfl | rfl | rfl | rfl | rfl | rfl | rfl | rfl | rfl | rfl | rfl : x = 0 ∨ x = 1 ∨ x = 2 ∨ x = 3 ∨ x = 4 ∨ x = 5 ∨ x = 16 ∨ x = 17 ∨ x = 18 ∨ x = 19 ∨ x = 20 ∨ x = 21 ∨ x = 22 ∨ x = 23 := by omega
    · exact stepR_0 bad cs s w hbad h hok hz hg
    · exact stepR_1 bad cs s w hbad h hok hz hg
    · exact stepR_2 bad cs s w hbad h hok hz hg
    · exact stepR_3 bad cs s w hbad h hok hz hg
    · exact stepR_4 bad cs s w hbad h hok hz hg
    · exact stepR_5 bad cs s w hbad h hok hz hg
    · exact stepR_16 bad cs s w hbad h hok hz hg
    · by_cases ht : topF s.data 0 = 0
      · exact stepR_17z bad cs s w hbad h hok hz hg ht
      · exact stepR_17n bad cs s w hbad h hok hz hg ht
    · exact stepR_18 bad cs s w hbad h hok hz hg
    · exact stepR_19 bad cs s w hbad h hok hz hg
    · exact stepR_20 bad cs s w hbad h hok hz hg
    · exact stepR_21 bad cs s w hbad h hok hz hg
    · cases hin : s.input with
      | nil => exact stepR_22e bad cs s w hbad h hok hz hg hin
      | cons xi ri => exact stepR_22x bad cs s w hbad h hok hz hg xi ri hin
    · exact stepR_23 bad cs s w hbad h hok hz hg
  · exact stepR_stop bad cs s w h hok hz
theorem SlAt.heap {w F : World} {k : IntKind} {o : Option Value} {l : List Int} (h : SlAt w k o l) (hk : ∀ g, g < w.heap.size → F.heap[g]? = w.heap[g]?) : SlAt F k o l := by
  obtain ⟨A, c, h1, h2, h3, h4, h5⟩ := h
  refine ⟨A, c, h1, h2, h3, h4, fun i u hu => ?_⟩
  obtain ⟨a, ha, hc⟩ := h5 i u hu
  refine ⟨a, ha, ?_⟩
  have hlt := World.block_lt_of_cell? w _ hc
  rw [World.cell?_of_block (w := w) (hk _ hlt)]
  exact hc
theorem StIs.heap {w F : World} {cs : Array Value} {s : St} (h : StIs w cs s) (hk : ∀ g, g < w.heap.size → F.heap[g]? = w.heap[g]?) : StIs F cs s :=
  ⟨h.size, h.image.heap hk, h.at_, h.data.heap hk, h.ret.heap hk, h.mem, h.input.heap hk, h.output.heap hk, h.stop, h.wf⟩
def bad2 (B g : Nat) : Prop := g = B ∨ g = B + 1
structure RanI (w wr : World) (s : St) (n k : Nat) (sk : St) (ck : Array Value) : Prop where
  b1 : wr.heap[w.heap.size]? = some (.cells ck 28 (0, 0))
  b2 : wr.heap[w.heap.size + 1]? = some (.cells zeroSt 28 (0, 0))
  av : StAv (bad2 w.heap.size) wr ck sk
  x : Ext w wr
  ok : OkSt sk
  run : runF n s = ((runF (n - k) sk).1, (runF (n - k) sk).2 + k)
theorem RanI.next {w wr w1 : World} {s : St} {n k : Nat} {sk : St} {ck c2 : Array Value} (h : RanI w wr s n k sk ck) (hk : k < n) (hs : sk.stop = 0) (ha : StAv (bad2 w.heap.size) w1 c2 (stepF sk)) (x : Ext wr w1) :
    RanI w (w1.setRow w.heap.size c2) s n (k + 1) (stepF sk) c2 := by
  refine ⟨setRow_heap _ _ _ _ _ _ (ext_heap x h.b1), (setRow_other _ _ _ _ (by omega)).trans (ext_heap x h.b2), fun F hF => ha F fun g hg hl => ?_, (h.x.trans x).setRow (Nat.le_refl _) _, ok_step h.ok, ?_⟩
  · rw [hF g hg (by simpa [World.setRow] using hl), setRow_other _ _ _ _ (fun e => hg (.inl e))]
  · rw [h.run, show n - k = (n - (k + 1)) + 1 from by omega]
    simp only [runF, hs, if_true]
    rw [Nat.add_assoc, Nat.add_comm 1 k]
theorem RanI.fin {w wr : World} {s : St} {n k : Nat} {sk : St} {ck : Array Value} (h : RanI w wr s n k sk ck) (hk : ¬ (k < n ∧ sk.stop = 0)) : runF n s = (sk, k) := by
  rw [h.run]
  cases hn : n - k with
  | zero => simp [runF]
  | succ m =>
    have : ¬ sk.stop = 0 := fun hs => hk ⟨by omega, hs⟩
    simp [runF, this]
def RanRet (w : World) (r : St × Nat) (e : Ending) (w' : World) : Prop := ∃ cs', e = .returned (.tuple #[.agg cs', .int .i64 (r.2 : Int)]) ∧ StIs w' cs' r.1 ∧ Ext w w'
theorem results_ran {P : Program} {fn : Func} {p u : Tmp} {tp : TypeId} (h : fn.results = #[.cell p tp, .tmp u]) (tmps : Array Value) (w : World) (g : Nat) (t : TypeId) (cs : Array Value) (fr : Nat × Nat) (d : TypeDesc)
    (hp : tmps.getD p undef = .pointer (some ⟨g, 0, none⟩)) (hg : w.heap[g]? = some (.cells cs t fr)) (hu : P.underlying tp = some d) (hd : (match d with | .struct _ | .array _ _ => true | _ => false) = true) (hi : (P.info? tp).map (·.size) = some cs.size) :
    (results fn tmps).run P w = .ok (.tuple #[.agg cs, tmps.getD u undef]) w := by
  have hp' : tmps[p]?.getD undef = .pointer (some ⟨g, 0, none⟩) := by simpa using hp
  simp [results, h, hp', asAddr, run_loadVar_row w g t tp cs fr d hg hu hd hi]
theorem ran_c (cs : Array Value) (s : St) (N : Nat) (w : World) (h : StIs w cs s) (hok : OkSt s) (hN : N ≤ 60000) : Calls Tryd.prog 15 #[.agg cs, .int .i64 (N : Int)] w (RanRet w (runF N s)) := by
  have HH := Lib.hid h
  have HOK := Lib.hid hok
  clear h hok
  go_enter Tryd.func15, Tryd.ntmps15
  go_upto_region 0 with (fail)
  go_cut [2, 4, 5] (fun s2 s4 s5 wx => s2 = .pointer (some ⟨w.heap.size, 0, none⟩) ∧ s4 = .pointer (some ⟨w.heap.size + 1, 0, none⟩) ∧ s5 = .int .i64 0 ∧ Two2 w wx cs)
  case first =>
    go_wp2_with fail
    go_meet
    exact ⟨rfl, rfl, rfl, zeroSt_lit ▸ two2_mk w cs⟩
  case rest =>
    obtain ⟨rfl, rfl, rfl, ht⟩ := hcut
    have HI0 : Hid (RanI w wc s N 0 s cs) := ⟨ht.b1, ht.b2, fun F hF => HH.out.heap fun g hg => (hF g (fun hb => by rcases hb with hb | hb <;> omega) (Nat.lt_of_lt_of_le hg ht.x.size)).trans (ht.x.block g hg), ht.x, HOK.out, by simp⟩
    clear ht
    go_wp2
    go_loopw [6] (fun v6 wr => ∃ k : Nat, ∃ sk ck, k ≤ N ∧ v6 = .int .i64 k ∧ RanI w wr s N k sk ck) (fun v6 _ => N - (intOf v6).toNat)
    case atStart => exact ⟨0, s, cs, Nat.zero_le _, rfl, HI0.out⟩
    case round =>
      obtain ⟨k, sk, ck, hk, rfl, hl⟩ := hrel
      have k38 : wr.cell? ⟨w.heap.size, 38, none⟩ = some (.int .i64 sk.stop) := (blk_cell hl.b1 38).trans hl.av.st.stop
      have HL := Lib.hid hl
      have HSK := Lib.hid hl.av.st.size
      by_cases hgo : k < N ∧ sk.stop = 0
      · obtain ⟨g1, g2⟩ := hgo
        have HG2 := Lib.hid g2
        rw [g2] at k38
        have hltr : w.heap.size + 1 < wr.heap.size := (Array.getElem?_eq_some_iff.1 hl.b2).1
        have HC := Lib.hid (stepR_all (bad2 w.heap.size) ck sk wr (fun g hg => by rcases hg with hg | hg <;> omega) hl.av hl.ok)
        clear hl g2
        go_wp2_with (refine wpList_load_row rfl 28 _ rfl w.heap.size rfl 28 ck (0, 0) _ HL.out.b1 Tryd.underlying28 rfl (by rw [HSK.out]; exact size28) ?_)
        refine HC.out.mono ?_
        rintro e w1 ⟨c2, rfl, ha, hx1⟩
        have HN := Lib.hid (HL.out.next g1 HG2.out ha hx1)
        have HB := Lib.hid (ext_heap hx1 HL.out.b1)
        have HS2 := Lib.hid ha.st.size
        have HO2 := Lib.hid (st_one ha.st)
        clear ha hx1
        go_wp2_with (refine wpList_store_row rfl 28 _ _ rfl w.heap.size c2 rfl rfl 28 ck HB.out (by rw [HS2.out]; exact size28) (by rw [HS2.out, HSK.out]) HO2.out ?_)
        refine ⟨⟨k + 1, stepF sk, c2, by omega, by go_num, HN.out⟩, by simp [intOf]; omega⟩
      · have HF := Lib.hid (hl.fin hgo)
        have HO := Lib.hid (st_one hl.av.st)
        have hcase : (N ≤ k) ∨ (k < N ∧ (sk.stop == 0) = false) := by
          by_cases q : k < N
          · right; exact ⟨q, by simp; intro h0; exact hgo ⟨q, h0⟩⟩
          · left; omega
        have HRET : Hid (RanRet w (runF N s) (.returned (.tuple #[.agg ck, .int .i64 (k : Int)])) (wr.setRow (w.heap.size + 1) ck)) := by
          rw [HF.out]
          exact ⟨ck, rfl, hl.av _ fun g hg _ => setRow_other _ _ _ _ (fun e => hg (.inr e)), hl.x.setRow (by omega) _⟩
        clear hl hgo
        rcases hcase with hc1 | ⟨hc1, hc2⟩
        all_goals go_wp2_with (first | refine wpList_load_row rfl 28 _ rfl w.heap.size rfl 28 ck (0, 0) _ HL.out.b1 Tryd.underlying28 rfl (by rw [HSK.out]; exact size28) ?_ | refine wpList_store_row rfl 28 _ _ rfl (w.heap.size + 1) ck rfl rfl 28 zeroSt HL.out.b2 (by rw [HSK.out]; exact size28) (by rw [HSK.out]; rfl) HO.out ?_)
        all_goals (
          refine bodyPost_ret (results_ran (p := 4) (u := 5) rfl _ _ (w.heap.size + 1) 28 ck (0, 0) _ rfl ?_ Tryd.underlying28 rfl (by rw [HSK.out]; exact size28)) rfl HRET.out
          exact setRow_heap _ _ _ _ _ _ HL.out.b2)
end Go.Proofs.YtpooedfchjpndaaDoor
