import Derived.Test.YtbaahbpianingaaGreatDoorMg21
import Derived.Test.YtbaahbpianingaaGreatDoorMg19
import Derived.Test.YtbaahbpianingaaGreatDoorMg20
namespace Go.Proofs.YtbaahbpianingaaGreatDoor
open Go Go.Proofs Go.RowKit
open Tape (Rule Ts)
set_option maxHeartbeats 6400000
set_option maxRecDepth 100000
def stV (A : Option Addr) (n c : Nat) (B : Option Addr) (m d : Nat) : Array Value := #[.slice A n c, .slice B m d, .int .i64 0, .int .i64 0, .int .i64 0]
theorem stV_one (A : Option Addr) (n c : Nat) (B : Option Addr) (m d : Nat) : (stV A n c B m d).all (·.oneCell') = true := by kernel_rfl
def StdRet (w : World) (s : Ts) (e : Ending) (w' : World) : Prop := ∃ cs', e = .returned (.agg cs') ∧ TsIs w' cs' s ∧ Ext w w'
/-- What TapeStarted returns: it is read from blocks below w0, or new ones. -/
def StaRet (w0 w : World) (s : Ts) (e : Ending) (w' : World) : Prop := ∃ cs', e = .returned (.agg cs') ∧ (∀ F : World, (∀ g, (g < w0.heap.size ∨ w.heap.size ≤ g) → g < w'.heap.size → F.heap[g]? = w'.heap[g]?) → TsIs F cs' s) ∧ Ext w w'
theorem slc_heapZ {w F : World} {A : Option Addr} {xs : List Value} (h : SlC w A xs) (hk : ∀ g, g < w.heap.size → F.heap[g]? = w.heap[g]?) : SlC F A xs := by
  intro i u hu
  obtain ⟨a, ha, hc⟩ := h i u hu
  refine ⟨a, ha, ?_⟩
  have hlt := World.block_lt_of_cell? w _ hc
  rw [World.cell?_of_block (w := w) (hk _ hlt)]
  exact hc
theorem started_c (A B : Option Addr) (L : List Rule) (l : List Int) (c' d' : Nat) (w0 w : World) (x0 : Ext w0 w) (hl1 : L.length ≤ c') (hl2 : c' ≤ maxLen) (hA : A = none → c' = 0) (h1 : Rls w0 A L) (hwf : ∀ r ∈ L, RuleWf r)
    (hm1 : l.length ≤ d') (hm2 : d' ≤ maxLen) (hB : B = none → d' = 0) (h2 : Sl w0 .i64 B l) (hwl : ∀ x ∈ l, I64 x) :
    Calls Tryz.prog 12 #[.slice A L.length c', .slice B l.length d'] w (StaRet w0 w { ts0 with rules := L, cells := tapeOf l }) := by
  have HX0 := Lib.hid x0
  have HFA : Hid (∀ W : World, (∀ g, g < w0.heap.size → W.heap[g]? = w0.heap[g]?) → l ≠ [] → TsIs W (stV A L.length c' B l.length d') { ts0 with rules := L, cells := tapeOf l }) := Lib.hid (fun W x hne => by
    refine ⟨rfl, ⟨A, c', rfl, hl1, hl2, hA, slc_heapZ h1 x⟩, ?_, rfl, rfl, rfl, startTs_wf hwf hwl⟩
    have ht : tapeOf l = l := by unfold tapeOf; rw [if_neg hne]
    show SlAt W .i64 _ (tapeOf l)
    rw [ht]
    exact ⟨B, d', rfl, hm1, hm2, hB, slc_heapZ h2 x⟩)
  have HFB : Hid (∀ (W : World) (g : Nat), (∀ g, g < w0.heap.size → W.heap[g]? = w0.heap[g]?) → W.heap[g]? = some (.cells #[.int .i64 0] 3 (0, 0)) → l = [] → TsIs W (stV A L.length c' (some ⟨g, 0, none⟩) 1 1) { ts0 with rules := L, cells := tapeOf l }) := Lib.hid (fun W g x hg hl => by
    refine ⟨rfl, ⟨A, c', rfl, hl1, hl2, hA, slc_heapZ h1 x⟩, ?_, rfl, rfl, rfl, startTs_wf hwf hwl⟩
    have ht : tapeOf l = [0] := by unfold tapeOf; rw [if_pos hl]
    show SlAt W .i64 _ (tapeOf l)
    rw [ht]
    refine ⟨some ⟨g, 0, none⟩, 1, rfl, Nat.le_refl _, by simp [maxLen], (fun q => by cases q), fun i u hu => ⟨_, rfl, ?_⟩⟩
    rw [add_off, Nat.zero_add, blk_cell hg]
    simpa using hu)
  have hml := Nat.le_trans hm1 hm2
  unfold maxLen at hml
  obtain ⟨n, hn⟩ : ∃ n, n = L.length := ⟨_, rfl⟩
  obtain ⟨m, hm⟩ : ∃ m, m = l.length := ⟨_, rfl⟩
  have HM := Lib.hid hm
  rw [← hn, ← hm] at HFA
  rw [← hn] at HFB
  rw [← hn, ← hm]
  rw [← hm] at hml
  clear hl1 hl2 hA h1 hwf hm1 hm2 hB h2 hwl hn hm x0
  go_enter Tryz.func12, Tryz.ntmps12
  go_upto_region 0 with (fail)
  go_cut [4] (fun s4 wx => s4 = .pointer (some ⟨w.heap.size, 0, none⟩) ∧ wx.heap[w.heap.size]? = some (.cells zeroTs 25 (0, 0)) ∧ Ext w wx)
  case first =>
    go_wp2_with (refine wpList_allocQ rfl rfl ?_)
    go_meet
    exact ⟨rfl, heap_alloc_new w _, (Ext.refl w).alloc _⟩
  obtain ⟨rfl, hb, hx⟩ := hcut
  obtain ⟨wa, rfl⟩ : ∃ wa : World, wa = wc := ⟨_, rfl⟩
  have HB := Lib.hid hb
  have HX := Lib.hid hx
  have hlt := (Array.getElem?_eq_some_iff.1 hb).1
  clear hb hx
  go_upto_region 1 with (fail)
  go_cut [5] (fun s5 wx => s5 = .pointer (some ⟨wa.heap.size, 0, none⟩) ∧ wx.heap[wa.heap.size]? = some (.cells (stV A n c' B m d') 25 (0, 0)) ∧ Ext wa wx)
  case first =>
    have HZ := Lib.hid (heap_alloc_new wa (.cells zeroTs 25))
    go_wp2_with (first | refine wpList_build_ts rfl _ _ rfl A n c' B m d' rfl rfl ?_ | refine wpList_allocQ rfl rfl ?_ | refine wpList_store_row rfl 25 _ _ rfl wa.heap.size (stV A n c' B m d') rfl rfl 25 zeroTs HZ.out sizeQ rfl (stV_one _ _ _ _ _ _) ?_)
    go_meet
    exact ⟨rfl, setRow_heap _ _ _ _ _ _ HZ.out, ((Ext.refl wa).alloc _).setRow (Nat.le_refl _) _⟩
  obtain ⟨rfl, hb5, hx5⟩ := hcut
  obtain ⟨g5, hg5⟩ : ∃ g5, wa.heap.size = g5 := ⟨_, rfl⟩
  rw [hg5] at hb5 ⊢
  obtain ⟨wb, rfl⟩ : ∃ wb : World, wb = wc := ⟨_, rfl⟩
  have HXB := Lib.hid (HX.out.trans hx5)
  have HBB := Lib.hid (ext_heap hx5 HB.out)
  have HB5 := Lib.hid hb5
  have HG5 : Hid (w.heap.size < g5) := Lib.hid (by omega)
  have k1 : wb.cell? ⟨g5, 1, none⟩ = some (.slice B m d') := blk_cell hb5 1
  have z1 := blk_frozen hb5 1
  have hlt5 := (Array.getElem?_eq_some_iff.1 hb5).1
  clear hx5 hb5 hlt hg5
  by_cases hz : m = 0
  · have hl0 : l = [] := List.eq_nil_of_length_eq_zero (by rw [← HM.out]; exact hz)
    have HL0 := Lib.hid hl0
    subst hz
    clear hl0
    go_upto_region 4 with (fail)
    refine wp_worldT (fun wx => ∃ g, wx.heap[g]? = some (.cells #[.int .i64 0] 3 (0, 0)) ∧ wx.heap[g5]? = some (.cells (stV A n c' (some ⟨g, 0, none⟩) 1 1) 25 (0, 0)) ∧ wx.heap[w.heap.size]? = some (.cells zeroTs 25 (0, 0)) ∧ Ext w wx ∧ w.heap.size < g) ⟨wb.heap.size, ?_, ?_, ?_, ?_, by have := HG5.out; omega⟩ ?_
    · have := heap_alloc_new (wb.setCell ⟨g5, 1, none⟩ (.slice (some ⟨wb.heap.size, 0, none⟩) 1 1)) (.cells #[.int .i64 0] 3)
      rwa [World.size_setCell] at this
    · exact ext_heap ((Ext.refl _).alloc _) (heap_set_self HB5.out 1 (.slice (some ⟨wb.heap.size, 0, none⟩) 1 1))
    · exact ext_heap ((Ext.refl _).alloc _) (by rw [Below.heap_setCell _ _ _ _ (by have := HG5.out; show w.heap.size ≠ g5; omega)]; exact HBB.out)
    · exact (HXB.out.setCell (p := ⟨g5, 1, none⟩) (Nat.le_of_lt HG5.out) _).alloc _
    rintro wf ⟨g, hg, hb5, hb0, hx, hgw⟩
    have HI : Hid (∀ F : World, (∀ b, (b < w0.heap.size ∨ w.heap.size ≤ b) → b < (wf.setRow w.heap.size (stV A n c' (some ⟨g, 0, none⟩) 1 1)).heap.size → F.heap[b]? = (wf.setRow w.heap.size (stV A n c' (some ⟨g, 0, none⟩) 1 1)).heap[b]?) → TsIs F (stV A n c' (some ⟨g, 0, none⟩) 1 1) { ts0 with rules := L, cells := tapeOf l }) := Lib.hid (fun F hF => by
      have hx2 := hx.setRow (Nat.le_refl w.heap.size) (stV A n c' (some ⟨g, 0, none⟩) 1 1)
      have hs := hx2.size
      have hs0 := HX0.out.size
      refine HFB.out F g (fun b hb => ?_) ?_ HL0.out
      · rw [hF b (.inl hb) (by omega), hx2.block b (by omega)]; exact HX0.out.block b hb
      · have hg2 : (wf.setRow w.heap.size (stV A n c' (some ⟨g, 0, none⟩) 1 1)).heap[g]? = some (.cells #[.int .i64 0] 3 (0, 0)) := (setRow_other _ _ _ _ (by omega)).trans hg
        rw [hF g (.inr (by omega)) (Array.getElem?_eq_some_iff.1 hg2).1]; exact hg2)
    have H5 := Lib.hid hb5
    have H0 := Lib.hid hb0
    have HXF := Lib.hid hx
    have hltf := (Array.getElem?_eq_some_iff.1 hb5).1
    have hltw := (Array.getElem?_eq_some_iff.1 hb0).1
    obtain ⟨cz, hcz⟩ : ∃ cz, cz = stV A n c' (some ⟨g, 0, none⟩) 1 1 := ⟨_, rfl⟩
    have HSZ : Hid (cz.size = 5) := Lib.hid (by rw [hcz]; rfl)
    have HO : Hid (cz.all (·.oneCell') = true) := Lib.hid (by rw [hcz]; exact stV_one _ _ _ _ _ _)
    rw [← hcz] at HI H5
    clear hg hb5 hb0 hx hcz k1 z1
    go_wp2_with (first | refine wpList_load_row rfl 25 _ rfl g5 rfl 25 cz (0, 0) _ H5.out Tryz.underlying25 rfl (by rw [HSZ.out]; exact sizeQ) ?_ | refine wpList_store_row rfl 25 _ _ rfl w.heap.size cz rfl rfl 25 zeroTs H0.out (by rw [HSZ.out]; exact sizeQ) (by rw [HSZ.out]; rfl) HO.out ?_)
    refine bodyPost_ret (results_oneT rfl _ _ w.heap.size 25 cz (0, 0) _ rfl ?_ Tryz.underlying25 rfl (by rw [HSZ.out]; exact sizeQ)) rfl ⟨cz, rfl, ?_, HXF.out.setRow (Nat.le_refl _) _⟩
    · exact setRow_heap _ _ _ _ _ _ H0.out
    · exact HI.out
  · have hne : ((m : Int) == 0) = false := by simp; omega
    have HI : Hid (∀ W : World, (∀ g, g < w0.heap.size → W.heap[g]? = w0.heap[g]?) → TsIs W (stV A n c' B m d') { ts0 with rules := L, cells := tapeOf l }) := Lib.hid (fun W x => HFA.out W x (fun q => hz (by rw [HM.out, q]; rfl)))
    have hltw := (Array.getElem?_eq_some_iff.1 HBB.out).1
    obtain ⟨cz, hcz⟩ : ∃ cz, cz = stV A n c' B m d' := ⟨_, rfl⟩
    have HSZ : Hid (cz.size = 5) := Lib.hid (by rw [hcz]; rfl)
    have HO : Hid (cz.all (·.oneCell') = true) := Lib.hid (by rw [hcz]; exact stV_one _ _ _ _ _ _)
    rw [← hcz] at HI HB5
    clear hcz hz k1 z1
    go_wp2_with (first | refine wpList_load_row rfl 25 _ rfl g5 rfl 25 cz (0, 0) _ HB5.out Tryz.underlying25 rfl (by rw [HSZ.out]; exact sizeQ) ?_ | refine wpList_store_row rfl 25 _ _ rfl w.heap.size cz rfl rfl 25 zeroTs HBB.out (by rw [HSZ.out]; exact sizeQ) (by rw [HSZ.out]; rfl) HO.out ?_)
    have hxf := HXB.out.setRow (Nat.le_refl w.heap.size) cz
    refine bodyPost_ret (results_oneT rfl _ _ w.heap.size 25 cz (0, 0) _ rfl ?_ Tryz.underlying25 rfl (by rw [HSZ.out]; exact sizeQ)) rfl ⟨cz, rfl, fun F hF => HI.out F (fun b hb => by have h1 := HX0.out.size; have h2 := hxf.size; rw [hF b (.inl hb) (by omega), hxf.block b (by omega)]; exact HX0.out.block b hb), hxf⟩
    exact setRow_heap _ _ _ _ _ _ HBB.out
/-- Inked: a part of a slice. -/
def InkRet (w : World) (l : List Int) (e : Ending) (w' : World) : Prop := ∃ A' c2, e = .returned (.slice A' l.length c2) ∧ Sl w' .i64 A' l ∧ l.length ≤ maxLen ∧ w = w'
theorem inked_c (A : Option Addr) (l : List Int) (c : Nat) (w : World) (hl : l.length ≤ c) (hc : c ≤ maxLen) (hA : A = none → c = 0) (h : Sl w .i64 A l) :
    Calls Tryz.prog 15 #[.slice A l.length c] w (InkRet w (Tape.inked l)) := by
  have HSL := Lib.hid h
  have hml := Nat.le_trans hl hc
  unfold maxLen at hml hc
  obtain ⟨m, hm⟩ : ∃ m, m = l.length := ⟨_, rfl⟩
  have HM := Lib.hid hm
  rw [← hm] at hl hml ⊢
  have HAC := Lib.hid hA
  clear h hm hA
  go_enter Tryz.func15, Tryz.ntmps15
  go_wp2
  go_loop [3] (fun i => ∃ k : Nat, k ≤ m ∧ i = .int .i64 k ∧ Hid (∀ i v, i < k → l[i]? = some v → v = 0)) (fun i => m - (intOf i).toNat)
  case atStart => exact ⟨0, Nat.zero_le _, rfl, Lib.hid (fun i v hi => by omega)⟩
  case round =>
  obtain ⟨k, hk, rfl, hz⟩ := hrel
  have HZK := Lib.hid hz.out
  clear hz
  by_cases hlt : k < m
  · obtain ⟨b, o, x, rfl, hx, ha⟩ := HSL.out.at2 (show k < l.length by rw [← HM.out]; exact hlt)
    have HX := Lib.hid hx.out
    clear hx
    by_cases hx0 : x = 0
    · have e1 : (x == 0) = true := by simpa using hx0
      have HZN : Hid (∀ i v, i < k + 1 → l[i]? = some v → v = 0) := Lib.hid (fun i v hi hv => by
        by_cases e : i = k
        · subst e; rw [HX.out] at hv; injection hv with hv; rw [← hv]; exact hx0
        · exact HZK.out i v (by omega) hv)
      clear hx0
      go_wp2
      go_round
      case rel => exact ⟨k + 1, by omega, by go_num, HZN⟩
      case measure => simp [intOf]; omega
    · have e1 : (x == 0) = false := by simpa using hx0
      have HX0 := Lib.hid hx0
      clear hx0
      go_wp2
      go_loop [4] (fun i => ∃ t : Nat, k < t ∧ t ≤ m ∧ i = .int .i64 t ∧ Hid (∀ i v, t ≤ i → l[i]? = some v → v = 0)) (fun i => (intOf i).toNat)
      case atStart => exact ⟨m, hlt, Nat.le_refl _, rfl, Lib.hid (fun i v hi hv => by
        have := (List.getElem?_eq_some_iff.1 hv).1
        have := HM.out
        omega)⟩
      case round =>
      obtain ⟨t, hkt, htm, rfl, hz⟩ := hrel
      obtain ⟨j, rfl⟩ : ∃ j, t = j + 1 := ⟨t - 1, by omega⟩
      obtain ⟨b', o', y, he, hy, hay⟩ := HSL.out.at2 (show j < l.length by rw [← HM.out]; omega)
      cases he
      have HZ := Lib.hid hz.out
      have HY := Lib.hid hy.out
      clear hz hy
      have wj : IntKind.i64.wrap (((j + 1 : Nat) : Int) - 1) = (j : Int) := by rw [show (((j + 1 : Nat) : Int) - 1) = (j : Int) by omega]; exact IntWalk.i64_in _ (by omega)
      have htc : (((j + 1 : Nat) : Int) - 1) = (j : Int) := by omega
      have hgt : decide (((j + 1 : Nat) : Int) > (k : Int)) = true := decide_eq_true (by omega)
      have hjm : j < m := by omega
      by_cases hy0 : y = 0
      · have e2 : (y == 0) = true := by simpa using hy0
        have HNX : Hid (k < j ∧ ∀ i v, j ≤ i → l[i]? = some v → v = 0) := Lib.hid (by
          subst hy0
          refine ⟨?_, fun i v hi hv => ?_⟩
          · rcases Nat.lt_or_ge k j with q | q
            · exact q
            · have : k = j := by omega
              subst this
              have h1 := HX.out
              rw [HY.out] at h1
              injection h1 with h1
              exact absurd h1.symm HX0.out
          · by_cases e : i = j
            · subst e; rw [HY.out] at hv; injection hv with hv; exact hv.symm
            · exact HZ.out i v (by omega) hv)
        clear hy0
        go_wp2
        go_round
        case rel => exact ⟨j, HNX.out.1, by omega, by go_num, Lib.hid HNX.out.2⟩
        case measure => simp [intOf]
      · have e2 : (y == 0) = false := by simpa using hy0
        have HIK : Hid (Tape.inked l = (l.drop k).take (j + 1 - k)) := Lib.hid (inked_cut HZK.out HX.out HX0.out hkt (by rw [← HM.out]; exact htm) (by rw [Nat.add_sub_cancel]; exact HY.out) hy0 HZ.out)
        have hll : ((l.drop k).take (j + 1 - k)).length = j + 1 - k := by rw [List.length_take, List.length_drop, ← HM.out]; omega
        have HLL := Lib.hid hll
        have hkc : k ≤ c := by omega
        have hjc : j + 1 ≤ c := by omega
        clear hy0 hll
        go_wp2
        go_ret
        refine ⟨some ⟨b, o + k, none⟩, c - k, ?_, ?_, ?_, rfl⟩
        · rw [HIK.out, HLL.out]; rfl
        · rw [HIK.out]
          show SlC w _ (((l.drop k).take (j + 1 - k)).map _)
          rw [List.map_take, List.map_drop]
          exact slc_sub HSL.out k _
        · rw [HIK.out, HLL.out]; unfold maxLen; omega
  · have hkm : k = m := by omega
    have HIN : Hid (Tape.inked l = []) := Lib.hid (inked_none (fun v hv => by
      obtain ⟨i, hi, rfl⟩ := List.getElem_of_mem hv
      exact HZK.out i _ (by rw [hkm, HM.out]; exact hi) (List.getElem?_eq_getElem hi)))
    subst hkm
    have hgt : decide ((k : Int) > (k : Int)) = false := by simp
    cases A with
    | none =>
      have hc0 := HAC.out rfl
      subst hc0
      have hk0 : k = 0 := by omega
      subst hk0
      go_wp2
      go_loop [4] (fun i => i = .int .i64 0) (fun i => (intOf i).toNat)
      case atStart => rfl
      case round =>
      subst hrel
      go_wp2
      go_ret
      rw [HIN.out]
      exact ⟨_, _, rfl, SlC.nil _ _, by simp [maxLen], rfl⟩
    | some a =>
      obtain ⟨b, o, sp⟩ := a
      go_wp2
      go_loop [4] (fun i => i = .int .i64 (k : Int)) (fun i => (intOf i).toNat)
      case atStart => rfl
      case round =>
      subst hrel
      go_wp2
      all_goals go_ret
      all_goals rw [HIN.out]
      all_goals exact ⟨_, _, rfl, SlC.nil _ _, by simp [maxLen], rfl⟩
end Go.Proofs.YtbaahbpianingaaGreatDoor
namespace Go.Proofs.YtbaahbpianingaaGreatDoor
open Go Go.Proofs Go.RowKit
open Tape (Rule Ts splitP)
set_option maxHeartbeats 6400000
set_option maxRecDepth 100000
theorem tx_lit : (⟨#[48, 32, 48, 32, 49, 32, 82, 32, 49, 10, 49, 32, 48, 32, 50, 32, 76, 32, 50, 10, 50, 32, 49, 32, 51, 32, 83, 32, 72, 10]⟩ : ByteArray) = strOfNums txC := by rfl
theorem tx_nums : numsT ⟨#[48, 32, 48, 32, 49, 32, 82, 32, 49, 10, 49, 32, 48, 32, 50, 32, 76, 32, 50, 10, 50, 32, 49, 32, 51, 32, 83, 32, 72, 10]⟩ = txC := by rfl
theorem taped_c (w : World) (ht : TabT w) : Calls Tryz.prog 10 #[] w (BRet w true) := by
  have HT := Lib.hid ht
  clear ht
  go_enter Tryz.func10, Tryz.ntmps10
  go_upto_region 1 with (fail)
  go_cut [1, 2] (fun s1 s2 wx => ∃ g1 cs1, s1 = .pointer (some ⟨g1, 0, none⟩) ∧ s2 = .pointer (some ⟨g1 + 1, 0, none⟩) ∧ VarT wx g1 cs1 tx0 ∧ wx.heap[g1 + 1]? = some (.cells #[.int .i64 0, .int .i64 0] 27 (0, 0)) ∧ Ext w wx)
  case first =>
    have HX0 := Lib.hid ((Ext.refl w).alloc (.cells (rulesV thr).toArray 54))
    have HS : Hid (Calls Tryz.prog 5 #[.slice (some ⟨w.heap.size, 0, none⟩) 3 3, .slice none 0 0] (w.alloc (.cells (rulesV thr).toArray 54)) (SRetT (w.alloc (.cells (rulesV thr).toArray 54)) (tx0, (0, 0)))) := Lib.hid (by
      rw [← tx_start]
      exact startT_all (some ⟨w.heap.size, 0, none⟩) none thr [] 3 0 (w.alloc (.cells (rulesV thr).toArray 54)) (by decide) (rls_block (heap_alloc_new w _)) thr_wf (by decide) (fun q => by cases q) (SlC.nil _ _))
    go_wp2_with (go_at_call 34; refine (three_c _).mono ?_; rintro e w' ⟨rfl, rfl⟩)
    refine HS.out.mono ?_
    rintro e w1 ⟨cs', rfl, hst, hx1⟩
    have HA := Lib.hid (asgT_mk w1 hst.st 0 0)
    have HS2 := Lib.hid hst.st.size
    have HO := Lib.hid (tsq_one hst.st)
    have HX1 := Lib.hid hx1
    have HZ := Lib.hid (heap_alloc2_old w1 (.cells zeroTs 25) (.cells #[.int .i64 0, .int .i64 0] 27))
    have HF := Lib.hid ((setRow_other _ w1.heap.size (w1.heap.size + 1) cs' (by omega)).trans (heap_alloc2_new w1 (.cells zeroTs 25) (.cells #[.int .i64 0, .int .i64 0] 27)))
    clear hst hx1
    simp only [fAgg]
    go_wp2_with (first | refine wpList_allocQ rfl rfl ?_ | refine wpList_store_row rfl 25 _ _ rfl w1.heap.size cs' rfl rfl 25 zeroTs HZ.out (by rw [HS2.out]; exact sizeQ) (by rw [HS2.out]; rfl) HO.out ?_ | refine wpList_store_row rfl 27 _ _ rfl (w1.heap.size + 1) #[.int .i64 0, .int .i64 0] rfl rfl 27 _ HF.out sizeF rfl (by kernel_rfl) ?_)
    go_meet
    exact ⟨_, cs', rfl, rfl, HA.out.v, HA.out.f, HX0.out.trans (HX1.out.trans HA.out.x)⟩
  obtain ⟨g1, cs1, rfl, rfl, hv, hf, hx⟩ := hcut
  obtain ⟨wa, rfl⟩ : ∃ wa : World, wa = wc := ⟨_, rfl⟩
  have HV1 := Lib.hid hv
  have HF1 := Lib.hid hf
  have HX := Lib.hid hx
  have HC1 := Lib.hid hv.st.size
  clear hv hf hx
  go_upto_region 2 with (fail)
  go_cut [3, 4, 5] (fun s3 s4 s5 wx => ∃ g cs, s3 = .pointer (some ⟨g, 0, none⟩) ∧ s4 = .int .i64 3 ∧ s5 = .pointer (some ⟨g + 1, 0, none⟩) ∧ VarT wx g cs tx3 ∧ wx.heap[g + 1]? = some (.cells #[.int .i64 0, .int .i64 0] 27 (0, 0)) ∧ Ext wa wx)
  case first =>
    have HR := Lib.hid (runT_all cs1 tx0 9 wa HV1.out.st)
    go_wp2_with (refine wpList_load_row rfl 25 _ rfl g1 rfl 25 cs1 (0, 0) _ HV1.out.g Tryz.underlying25 rfl (by rw [HC1.out]; exact sizeQ) ?_)
    refine HR.out.mono ?_
    rw [tx_run9]
    rintro e w1 ⟨cs', rfl, hst, hx1⟩
    have HA := Lib.hid (asgT_mk w1 hst.st 0 0)
    have HS2 := Lib.hid hst.st.size
    have HO := Lib.hid (tsq_one hst.st)
    have HX1 := Lib.hid hx1
    have HZ := Lib.hid (heap_alloc2_old w1 (.cells zeroTs 25) (.cells #[.int .i64 0, .int .i64 0] 27))
    have HF := Lib.hid ((setRow_other _ w1.heap.size (w1.heap.size + 1) cs' (by omega)).trans (heap_alloc2_new w1 (.cells zeroTs 25) (.cells #[.int .i64 0, .int .i64 0] 27)))
    clear hst hx1
    simp only [fAgg]
    go_wp2_with (first | refine wpList_allocQ rfl rfl ?_ | refine wpList_store_row rfl 25 _ _ rfl w1.heap.size cs' rfl rfl 25 zeroTs HZ.out (by rw [HS2.out]; exact sizeQ) (by rw [HS2.out]; rfl) HO.out ?_ | refine wpList_store_row rfl 27 _ _ rfl (w1.heap.size + 1) #[.int .i64 0, .int .i64 0] rfl rfl 27 _ HF.out sizeF rfl (by kernel_rfl) ?_)
    go_meet
    exact ⟨_, cs', rfl, rfl, rfl, HA.out.v, HA.out.f, HX1.out.trans HA.out.x⟩
  obtain ⟨g3, cs3, rfl, rfl, rfl, hv, hf, hx⟩ := hcut
  obtain ⟨wb, rfl⟩ : ∃ wb : World, wb = wc := ⟨_, rfl⟩
  have HV1 := Lib.hid (HV1.out.ext hx)
  have HF1 := Lib.hid (ext_heap hx HF1.out)
  have HX := Lib.hid (HX.out.trans hx)
  have HV3 := Lib.hid hv
  have HF3 := Lib.hid hf
  have HC3 := Lib.hid hv.st.size
  clear hv hf hx
  go_upto_region 3 with (fail)
  go_cut [6, 7] (fun s6 s7 wx => ∃ g cs, s6 = .pointer (some ⟨g, 0, none⟩) ∧ s7 = .pointer (some ⟨g + 1, 0, none⟩) ∧ VarT wx g cs tx1 ∧ wx.heap[g + 1]? = some (.cells #[.int .i64 0, .int .i64 0] 27 (0, 0)) ∧ Ext wb wx)
  case first =>
    have HR := Lib.hid (stepT_go cs1 tx0 wb HV1.out.st)
    go_wp2_with (refine wpList_load_row rfl 25 _ rfl g1 rfl 25 cs1 (0, 0) _ HV1.out.g Tryz.underlying25 rfl (by rw [HC1.out]; exact sizeQ) ?_)
    refine HR.out.mono ?_
    rw [tx_run1]
    rintro e w1 ⟨cs', rfl, hst, hx1⟩
    have HA := Lib.hid (asgT_mk w1 hst.st 0 0)
    have HS2 := Lib.hid hst.st.size
    have HO := Lib.hid (tsq_one hst.st)
    have HX1 := Lib.hid hx1
    have HZ := Lib.hid (heap_alloc2_old w1 (.cells zeroTs 25) (.cells #[.int .i64 0, .int .i64 0] 27))
    have HF := Lib.hid ((setRow_other _ w1.heap.size (w1.heap.size + 1) cs' (by omega)).trans (heap_alloc2_new w1 (.cells zeroTs 25) (.cells #[.int .i64 0, .int .i64 0] 27)))
    clear hst hx1
    simp only [fAgg]
    go_wp2_with (first | refine wpList_allocQ rfl rfl ?_ | refine wpList_store_row rfl 25 _ _ rfl w1.heap.size cs' rfl rfl 25 zeroTs HZ.out (by rw [HS2.out]; exact sizeQ) (by rw [HS2.out]; rfl) HO.out ?_ | refine wpList_store_row rfl 27 _ _ rfl (w1.heap.size + 1) #[.int .i64 0, .int .i64 0] rfl rfl 27 _ HF.out sizeF rfl (by kernel_rfl) ?_)
    go_meet
    exact ⟨_, cs', rfl, rfl, HA.out.v, HA.out.f, HX1.out.trans HA.out.x⟩
  obtain ⟨g6, cs6, rfl, rfl, hv, hf, hx⟩ := hcut
  obtain ⟨wd, rfl⟩ : ∃ wd : World, wd = wc := ⟨_, rfl⟩
  have HV1 := Lib.hid (HV1.out.ext hx)
  have HF1 := Lib.hid (ext_heap hx HF1.out)
  have HV3 := Lib.hid (HV3.out.ext hx)
  have HF3 := Lib.hid (ext_heap hx HF3.out)
  have HX := Lib.hid (HX.out.trans hx)
  have HV6 := Lib.hid hv
  have HF6 := Lib.hid hf
  have HC6 := Lib.hid hv.st.size
  clear hv hf hx
  go_upto_region 4 with (fail)
  go_cut [8, 9] (fun s8 s9 wx => ∃ A c g9, s8 = .slice A 2 c ∧ Sl wx .i64 A [3, 2] ∧ s9 = .pointer (some ⟨g9, 0, none⟩) ∧ wx.heap[g9]? = some (.cells #[.int .i64 0, .int .i64 0] 27 (0, 0)) ∧ Ext wd wx)
  case first =>
    have HR := Lib.hid (tape_all cs3 tx3 wd HV3.out.st)
    go_wp2_with (refine wpList_load_row rfl 25 _ rfl g3 rfl 25 cs3 (0, 0) _ HV3.out.g Tryz.underlying25 rfl (by rw [HC3.out]; exact sizeQ) ?_)
    refine HR.out.mono ?_
    rw [tx_tape]
    rintro e w1 ⟨v, rfl, ho, hx1⟩
    obtain ⟨A, c, rfl, _, _, _, hsl⟩ := own_sl ho
    have HX1 := Lib.hid hx1
    have HSL := Lib.hid hsl
    clear hx1 hsl ho
    simp only [fAgg]
    go_wp2_with fail
    go_meet
    exact ⟨A, c, _, rfl, Sl.ext HSL.out ((Ext.refl w1).alloc _), rfl, heap_alloc_new w1 _, HX1.out.trans ((Ext.refl w1).alloc _)⟩
  obtain ⟨A8, c8, g9, rfl, hsl, rfl, hf, hx⟩ := hcut
  obtain ⟨we, rfl⟩ : ∃ we : World, we = wc := ⟨_, rfl⟩
  have HV1 := Lib.hid (HV1.out.ext hx)
  have HF1 := Lib.hid (ext_heap hx HF1.out)
  have HV3 := Lib.hid (HV3.out.ext hx)
  have HF3 := Lib.hid (ext_heap hx HF3.out)
  have HV6 := Lib.hid (HV6.out.ext hx)
  have HF6 := Lib.hid (ext_heap hx HF6.out)
  have HX := Lib.hid (HX.out.trans hx)
  have HS8 := Lib.hid hsl
  have HF9 := Lib.hid hf
  clear hsl hf hx
  go_upto_region 5 with (fail)
  go_cut [10, 11] (fun s10 s11 wx => ∃ g cs, s10 = .pointer (some ⟨g, 0, none⟩) ∧ s11 = .pointer (some ⟨g + 1, 0, none⟩) ∧ VarT wx g cs (Tape.mirror tx3) ∧ wx.heap[g + 1]? = some (.cells #[.int .i64 0, .int .i64 0] 27 (0, 0)) ∧ Ext we wx)
  case first =>
    have HR := Lib.hid (mirror_all cs3 tx3 we HV3.out.st)
    go_wp2_with (refine wpList_load_row rfl 25 _ rfl g3 rfl 25 cs3 (0, 0) _ HV3.out.g Tryz.underlying25 rfl (by rw [HC3.out]; exact sizeQ) ?_)
    refine HR.out.mono ?_
    rw [tx_mirror]
    rintro e w1 ⟨cs', rfl, hst, hx1⟩
    have HA := Lib.hid (asgT_mk w1 hst.st 0 0)
    have HS2 := Lib.hid hst.st.size
    have HO := Lib.hid (tsq_one hst.st)
    have HX1 := Lib.hid hx1
    have HZ := Lib.hid (heap_alloc2_old w1 (.cells zeroTs 25) (.cells #[.int .i64 0, .int .i64 0] 27))
    have HF := Lib.hid ((setRow_other _ w1.heap.size (w1.heap.size + 1) cs' (by omega)).trans (heap_alloc2_new w1 (.cells zeroTs 25) (.cells #[.int .i64 0, .int .i64 0] 27)))
    clear hst hx1
    simp only [fAgg]
    go_wp2_with (first | refine wpList_allocQ rfl rfl ?_ | refine wpList_store_row rfl 25 _ _ rfl w1.heap.size cs' rfl rfl 25 zeroTs HZ.out (by rw [HS2.out]; exact sizeQ) (by rw [HS2.out]; rfl) HO.out ?_ | refine wpList_store_row rfl 27 _ _ rfl (w1.heap.size + 1) #[.int .i64 0, .int .i64 0] rfl rfl 27 _ HF.out sizeF rfl (by kernel_rfl) ?_)
    go_meet
    exact ⟨_, cs', rfl, rfl, HA.out.v, HA.out.f, HX1.out.trans HA.out.x⟩
  obtain ⟨g10, cs10, rfl, rfl, hv, hf, hx⟩ := hcut
  obtain ⟨wf, rfl⟩ : ∃ wf : World, wf = wc := ⟨_, rfl⟩
  have HV1 := Lib.hid (HV1.out.ext hx)
  have HF1 := Lib.hid (ext_heap hx HF1.out)
  have HV3 := Lib.hid (HV3.out.ext hx)
  have HF3 := Lib.hid (ext_heap hx HF3.out)
  have HV6 := Lib.hid (HV6.out.ext hx)
  have HF6 := Lib.hid (ext_heap hx HF6.out)
  have HS8 := Lib.hid (HS8.out.ext hx)
  have HF9 := Lib.hid (ext_heap hx HF9.out)
  have HX := Lib.hid (HX.out.trans hx)
  have HV10 := Lib.hid hv
  have HF10 := Lib.hid hf
  have HC10 := Lib.hid hv.st.size
  clear hv hf hx
  go_upto_region 6 with (fail)
  go_cut [12, 13] (fun s12 s13 wx => ∃ g13, s12 = .string ⟨#[48, 32, 48, 32, 49, 32, 82, 32, 49, 10, 49, 32, 48, 32, 50, 32, 76, 32, 50, 10, 50, 32, 49, 32, 51, 32, 83, 32, 72, 10]⟩ ∧ s13 = .pointer (some ⟨g13, 0, none⟩) ∧ wx.heap[g13]? = some (.cells #[.int .i64 0, .int .i64 0] 27 (0, 0)) ∧ Ext wf wx)
  case first =>
    have HX0 := Lib.hid ((Ext.refl wf).alloc (.cells (rulesV thr).toArray 54))
    have HW : Hid (Calls Tryz.prog 17 #[.slice (some ⟨wf.heap.size, 0, none⟩) 3 3] (wf.alloc (.cells (rulesV thr).toArray 54)) (WRet (wf.alloc (.cells (rulesV thr).toArray 54)) (txC, (0, 0)))) := Lib.hid (by
      rw [← tx_write]
      exact writeT_all (some ⟨wf.heap.size, 0, none⟩) thr 3 (wf.alloc (.cells (rulesV thr).toArray 54)) (by decide) (rls_block (heap_alloc_new wf _)) thr_wf (HT.out.ext (HX.out.trans HX0.out)))
    go_wp2_with (go_at_call 34; refine (three_c _).mono ?_; rintro e w' ⟨rfl, rfl⟩)
    refine HW.out.mono ?_
    rintro e w1 ⟨rfl, hx1⟩
    have HX1 := Lib.hid (HX0.out.trans hx1)
    clear hx1
    simp only [fAgg]
    go_wp2_with fail
    go_meet
    exact ⟨_, by rw [tx_lit], rfl, heap_alloc_new w1 _, HX1.out.trans ((Ext.refl w1).alloc _)⟩
  obtain ⟨g13, rfl, rfl, hf, hx⟩ := hcut
  obtain ⟨wg, rfl⟩ : ∃ wg : World, wg = wc := ⟨_, rfl⟩
  have HV1 := Lib.hid (HV1.out.ext hx)
  have HF1 := Lib.hid (ext_heap hx HF1.out)
  have HV3 := Lib.hid (HV3.out.ext hx)
  have HF3 := Lib.hid (ext_heap hx HF3.out)
  have HV6 := Lib.hid (HV6.out.ext hx)
  have HF6 := Lib.hid (ext_heap hx HF6.out)
  have HS8 := Lib.hid (HS8.out.ext hx)
  have HF9 := Lib.hid (ext_heap hx HF9.out)
  have HV10 := Lib.hid (HV10.out.ext hx)
  have HF10 := Lib.hid (ext_heap hx HF10.out)
  have HX := Lib.hid (HX.out.trans hx)
  have HF13 := Lib.hid hf
  clear hf hx
  go_upto_region 7 with (fail)
  go_cut [14, 15] (fun s14 s15 wx => ∃ A c g15, s14 = .slice A 3 c ∧ Rls wx A thr ∧ s15 = .pointer (some ⟨g15, 0, none⟩) ∧ wx.heap[g15]? = some (.cells #[.int .i64 0, .int .i64 0] 27 (0, 0)) ∧ Ext wg wx)
  case first =>
    have hrd := readT_all ⟨#[48, 32, 48, 32, 49, 32, 82, 32, 49, 10, 49, 32, 48, 32, 50, 32, 76, 32, 50, 10, 50, 32, 49, 32, 51, 32, 83, 32, 72, 10]⟩ wg (by decide) (HT.out.ext HX.out)
    rw [tx_nums, tx_read] at hrd
    have HRD := Lib.hid hrd
    clear hrd
    go_wp2_with fail
    refine HRD.out.mono ?_
    rintro e w1 ⟨v, rfl, ho, hx1⟩
    obtain ⟨A, c, rfl, _, _, _, hsl⟩ := own_sl5 ho
    have HX1 := Lib.hid hx1
    have HSL := Lib.hid hsl
    clear hx1 hsl ho
    simp only [fAgg]
    go_wp2_with fail
    go_meet
    exact ⟨A, c, _, rfl, Rls.ext HSL.out ((Ext.refl w1).alloc _), rfl, heap_alloc_new w1 _, HX1.out.trans ((Ext.refl w1).alloc _)⟩
  obtain ⟨A14, c14, g15, rfl, hsl, rfl, hf, hx⟩ := hcut
  obtain ⟨wh, rfl⟩ : ∃ wh : World, wh = wc := ⟨_, rfl⟩
  have HV1 := Lib.hid (HV1.out.ext hx)
  have HF1 := Lib.hid (ext_heap hx HF1.out)
  have HV3 := Lib.hid (HV3.out.ext hx)
  have HF3 := Lib.hid (ext_heap hx HF3.out)
  have HV6 := Lib.hid (HV6.out.ext hx)
  have HF6 := Lib.hid (ext_heap hx HF6.out)
  have HS8 := Lib.hid (HS8.out.ext hx)
  have HF9 := Lib.hid (ext_heap hx HF9.out)
  have HV10 := Lib.hid (HV10.out.ext hx)
  have HF10 := Lib.hid (ext_heap hx HF10.out)
  have HF13 := Lib.hid (ext_heap hx HF13.out)
  have HX := Lib.hid (HX.out.trans hx)
  have HS14 := Lib.hid hsl
  have HF15 := Lib.hid hf
  clear hsl hf hx
  have f1 : wh.cell? ⟨g1 + 1, 0, none⟩ = some (.int .i64 0) := blk_cell HF1.out 0
  have f3 : wh.cell? ⟨g3 + 1, 0, none⟩ = some (.int .i64 0) := blk_cell HF3.out 0
  have f6 : wh.cell? ⟨g6 + 1, 0, none⟩ = some (.int .i64 0) := blk_cell HF6.out 0
  have f9 : wh.cell? ⟨g9, 0, none⟩ = some (.int .i64 0) := blk_cell HF9.out 0
  have f10 : wh.cell? ⟨g10 + 1, 0, none⟩ = some (.int .i64 0) := blk_cell HF10.out 0
  have f13 : wh.cell? ⟨g13, 0, none⟩ = some (.int .i64 0) := blk_cell HF13.out 0
  have f15 : wh.cell? ⟨g15, 0, none⟩ = some (.int .i64 0) := blk_cell HF15.out 0
  go_upto_region 10 with (fail)
  obtain ⟨A10, c10, e10, -, -, -, s10⟩ := HV10.out.st.cells
  have HS10 := Lib.hid s10
  have q34 : wh.cell? ⟨g3, 4, none⟩ = some (.int .i64 1) := (blk_cell HV3.out.g 4).trans HV3.out.st.stop
  have q62 : wh.cell? ⟨g6, 2, none⟩ = some (.int .i64 1) := (blk_cell HV6.out.g 2).trans HV6.out.st.at_
  have q101 : wh.cell? ⟨g10, 1, none⟩ = some (.slice A10 2 c10) := (blk_cell HV10.out.g 1).trans e10
  have q102 : wh.cell? ⟨g10, 2, none⟩ = some (.int .i64 1) := (blk_cell HV10.out.g 2).trans HV10.out.st.at_
  have HI1 := Lib.hid (fun (W : World) (x : Ext wh W) (g : Nat) (hg : W.heap[g]? = some (.cells #[.int .i64 3, .int .i64 2] 3 (0, 0))) => Ints_c A8 (some ⟨g, 0, none⟩) [3, 2] [3, 2] c8 2 W (by decide) (by decide) (HS8.out.ext x) (sl_block hg rfl))
  have HI2 := Lib.hid (fun (W : World) (x : Ext wh W) (g : Nat) (hg : W.heap[g]? = some (.cells #[.int .i64 2, .int .i64 3] 3 (0, 0))) => Ints_c A10 (some ⟨g, 0, none⟩) [2, 3] [2, 3] c10 2 W (by decide) (by decide) (HS10.out.ext x) (sl_block hg rfl))
  have HSR := Lib.hid (fun (W : World) (x : Ext wh W) (g : Nat) (hg : W.heap[g]? = some (.cells (rulesV thr).toArray 54 (0, 0))) => SameRules_c A14 (some ⟨g, 0, none⟩) thr thr c14 3 W (by decide) (by decide) (HS14.out.ext x) (rls_block hg))
  have HVC := Lib.hid (fun (W : World) (x : Ext wh W) => tx_valid ▸ Valid_t cs3 tx3 W (HV3.out.st.ext x))
  clear e10 s10
  go_wp2_with fail
  refine (HI1.out _ ((Ext.refl wh).alloc _) _ (heap_alloc_new wh _)).mono ?_
  rintro e wi ⟨rfl, hn⟩
  have HXa : Hid (Ext wh wi) := Lib.hid (by obtain ⟨n, rfl⟩ := hn; exact ((Ext.refl wh).alloc _).drewN n)
  have r101 := Ext.cell HXa.out q101
  have r102 := Ext.cell HXa.out q102
  clear hn
  go_wp2_with fail
  refine (HI2.out _ (HXa.out.alloc _) _ (heap_alloc_new wi _)).mono ?_
  rintro e wj ⟨rfl, hn⟩
  have HXb : Hid (Ext wh wj) := Lib.hid (by obtain ⟨n, rfl⟩ := hn; exact (HXa.out.alloc _).drewN n)
  have r103 := Ext.cell HXb.out q102
  clear hn
  go_wp2_with (go_at_call 34; refine (three_c _).mono ?_; rintro e w' ⟨rfl, rfl⟩)
  refine (HSR.out _ (HXb.out.alloc _) _ (heap_alloc_new wj _)).mono ?_
  rintro e wk ⟨rfl, hn⟩
  have HXc : Hid (Ext wh wk) := Lib.hid (by obtain ⟨n, rfl⟩ := hn; exact (HXb.out.alloc _).drewN n)
  clear hn
  have HG3 := Lib.hid (ext_heap HXc.out HV3.out.g)
  go_wp2_with (refine wpList_load_rowg (by rfl) 25 _ rfl g3 (by rfl) 25 cs3 (0, 0) _ HG3.out Tryz.underlying25 rfl (by rw [HC3.out]; exact sizeQ) ?_)
  refine (HVC.out _ HXc.out).mono ?_
  rintro e wl ⟨rfl, hx⟩
  have HXd := Lib.hid (HX.out.trans (HXc.out.trans hx))
  clear hx
  simp only [fAgg]
  have hfld := fld0 0 0
  go_wp2_with fail
  go_ret
  exact ⟨rfl, HXd.out⟩
end Go.Proofs.YtbaahbpianingaaGreatDoor
namespace Go.Proofs.YtbaahbpianingaaGreatDoor
open Go Go.Proofs Go.RowKit
open Tape (Rule Ts)
set_option maxHeartbeats 12800000
set_option maxRecDepth 100000
theorem wpList_buildQg {w : World} {ops : Array Oper} {rest : List Oper} {o : Oper} {a : Act} {Q : Exit → Act → World → Prop} (hw : Region.wanted o (yielded ops a.tmps) = true) (ho : o.op = .build 25 #[])
    (h : wpList Tryz.prog ops Q rest (a.put o.dst (.agg zeroTs)) w) : wpList Tryz.prog ops Q (o :: rest) a w := by
  refine wpList_step fun K hK => ?_
  rw [if_pos hw]
  have hr : (Instr.build 25 #[]).run Tryz.prog w = .ok (.agg zeroTs) w := by kernel_rfl
  unfold Oper.wp execOp
  simp only [ho, List.map_toArray, List.map_nil, Sem.run_bind, hr, Sem.run_pure, Result.andThen_ok]
  exact hK _ _ h
theorem ts0_any {w F : World} {c : Array Value} (h : TsIs w c ts0) : TsIs F c ts0 := by
  obtain ⟨A, c0, h1, h2, h3, h4, _⟩ := h.rules
  obtain ⟨B, d, k1, k2, k3, k4, _⟩ := h.cells
  exact ⟨h.size, ⟨A, c0, h1, h2, h3, h4, SlC.nil _ _⟩, ⟨B, d, k1, k2, k3, k4, SlC.nil _ _⟩, h.at_, h.state, h.stop, h.wf⟩
theorem asgOneT (w1 : World) {cs' : Array Value} {s : Ts} (h : TsIs w1 cs' s) : VarT ((w1.alloc (.cells zeroTs 25)).setRow w1.heap.size cs') w1.heap.size cs' s ∧ Ext w1 ((w1.alloc (.cells zeroTs 25)).setRow w1.heap.size cs') :=
  have x : Ext w1 ((w1.alloc (.cells zeroTs 25)).setRow w1.heap.size cs') := ((Ext.refl w1).alloc _).setRow (Nat.le_refl _) _
  ⟨⟨setRow_heap _ _ _ _ _ _ (heap_alloc_new w1 _), h.ext x⟩, x⟩
end Go.Proofs.YtbaahbpianingaaGreatDoor
