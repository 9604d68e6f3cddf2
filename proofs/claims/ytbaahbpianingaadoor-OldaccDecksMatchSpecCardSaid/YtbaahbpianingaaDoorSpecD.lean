import Derived.Test.YtbaahbpianingaaDoorAgainD
import Derived.Test.YtbaahbpianingaaDoorDText
import Derived.Test.YtbaahbpianingaaDoorDeckOf
namespace Go.Proofs.YtbaahbpianingaaDoor
open Go Go.Proofs Go.RowKit
open Acc (Dk red five)
set_option maxHeartbeats 6400000
set_option maxRecDepth 100000
theorem deckOf_str (B : ByteArray) (w : World) (hB : B.size ≤ maxLen) : Calls Tryd.prog 25 #[.string B] w (DRet w (Acc.readDeck (numsOf B))) := by
  have h : Calls Tryd.prog 25 #[.string (strOfNums (numsOf B))] w (DRet w (Acc.readDeck (numsOf B))) := by
    by_cases hl : 1000 < (numsOf B).length
    · exact deckOf_long _ w (by rw [numsOf_len]; exact hB) hl
    · exact deckOf_all _ w (numsOf_byt B) (by omega)
  rw [strOf_numsOf] at h
  exact h
theorem writeD_bad {l : List Int} {c i : Int} (h : faultW l = (c, i)) (hc : c ≠ 0) : strOfNums (writeD l).1 = ⟨#[]⟩ := by
  unfold writeD
  rw [if_neg (by rw [h]; intro q; injection q with q _; exact hc q)]
  rfl
theorem decks_c (A : Option Addr) (l : List Int) (c' : Nat) (B : ByteArray) (w : World) (hl : l.length ≤ maxLen) (h1 : Sl w .i64 A l) (hB : B.size ≤ maxLen) (ht : Tabs w) : Calls Tryd.prog 6 #[.slice A l.length c', .string B] w (BRet w true) := by
  have HT := Lib.hid ht
  have H2 := Lib.hid (tabs_two ht)
  have HL := Lib.hid hl
  have H1 := Lib.hid h1
  have HB := Lib.hid hB
  clear ht hl h1 hB
  obtain ⟨q, hq⟩ : ∃ q, q = l.length := ⟨_, rfl⟩
  have HQ := Lib.hid hq
  rw [← hq]
  clear hq
  obtain ⟨c, i, hci⟩ : ∃ c i : Int, faultW l = (c, i) := ⟨_, _, rfl⟩
  have HC := Lib.hid hci
  clear hci
  obtain ⟨m, rc, ri, hrd⟩ : ∃ m rc ri, Acc.readDeck (numsOf B) = (m, (rc, ri)) := ⟨_, _, _, rfl⟩
  have HRD := Lib.hid hrd
  clear hrd
  go_enter Tryd.func6, Tryd.ntmps6
  go_upto_region 1 with (fail)
  go_cut [5, 6] (fun s5 s6 wx => ∃ g, s5 = .string (strOfNums (writeD l).1) ∧ s6 = .pointer (some ⟨g, 0, none⟩) ∧ wx.heap[g]? = some (.cells #[.int .i64 c, .int .i64 i] 28 (0, 0)) ∧ Ext w wx)
  case first =>
    have hr := write_all A l c' w HL.out H1.out HT.out H2.out
    rw [← HQ.out] at hr
    have HR := Lib.hid hr
    clear hr
    go_wp2_with fail
    refine HR.out.mono ?_
    rintro e w1 ⟨he, hx1⟩
    rw [writeD_two, HC.out] at he
    subst he
    have HX1 := Lib.hid hx1
    have HF := Lib.hid (heap_alloc_new w1 (.cells #[.int .i64 0, .int .i64 0] 28))
    clear hx1
    simp only [fAgg]
    go_wp2_with (refine wpList_store_row rfl 28 _ _ rfl w1.heap.size #[.int .i64 c, .int .i64 i] rfl rfl 28 _ HF.out sizeF rfl (by kernel_rfl) ?_)
    go_meet
    exact ⟨_, rfl, rfl, setRow_heap _ _ _ _ _ _ HF.out, HX1.out.trans (((Ext.refl w1).alloc _).setRow (Nat.le_refl _) _)⟩
  obtain ⟨g6, rfl, rfl, hf6, hx6⟩ := hcut
  obtain ⟨wa, rfl⟩ : ∃ wa : World, wa = wc := ⟨_, rfl⟩
  have HX6 := Lib.hid hx6
  have HF6 := Lib.hid hf6
  clear hf6 hx6
  go_upto_region 2 with (fail)
  go_cut [7, 8] (fun s7 s8 wx => ∃ A7 c7 g8, s7 = .slice A7 m.length c7 ∧ Sl wx .i64 A7 m ∧ m.length ≤ maxLen ∧ s8 = .pointer (some ⟨g8, 0, none⟩) ∧ wx.heap[g8]? = some (.cells #[.int .i64 rc, .int .i64 ri] 28 (0, 0)) ∧ Ext wa wx)
  case first =>
    have HR := Lib.hid (read_str B wa HB.out)
    go_wp2_with fail
    refine HR.out.mono ?_
    rw [HRD.out]
    rintro e w1 ⟨A7, c7, rfl, hsl, _, hlc, hcm, hx1⟩
    have HX1 := Lib.hid hx1
    have HS := Lib.hid hsl
    have HM := Lib.hid (Nat.le_trans hlc hcm)
    have HF := Lib.hid (heap_alloc_new w1 (.cells #[.int .i64 0, .int .i64 0] 28))
    clear hx1 hsl hlc hcm
    simp only [fAgg]
    go_wp2_with (refine wpList_store_row rfl 28 _ _ rfl w1.heap.size #[.int .i64 rc, .int .i64 ri] rfl rfl 28 _ HF.out sizeF rfl (by kernel_rfl) ?_)
    go_meet
    have hxf := ((Ext.refl w1).alloc (.cells #[.int .i64 0, .int .i64 0] 28)).setRow (Nat.le_refl _) #[.int .i64 rc, .int .i64 ri]
    exact ⟨A7, c7, _, rfl, HS.out.ext hxf, HM.out, rfl, setRow_heap _ _ _ _ _ _ HF.out, HX1.out.trans hxf⟩
  obtain ⟨A7, c7, g8, rfl, hs7, hm7, rfl, hf8, hx8⟩ := hcut
  obtain ⟨wb, rfl⟩ : ∃ wb : World, wb = wc := ⟨_, rfl⟩
  have HX8 := Lib.hid (HX6.out.trans hx8)
  have HF8 := Lib.hid hf8
  have HF6b := Lib.hid (ext_heap hx8 HF6.out)
  have HS7 := Lib.hid hs7
  have HM := Lib.hid hm7
  clear hf8 hx8 hs7 hm7
  go_upto_region 3 with (fail)
  go_cut [9] (fun s9 wx => ∃ g9, s9 = .pointer (some ⟨g9, 0, none⟩) ∧ wx.heap[g9]? = some (.cells #[.int .i64 c, .int .i64 i] 28 (0, 0)) ∧ Ext wb wx)
  case first =>
    have hr := WordsFault_c A l c' wb HL.out (H1.out.ext HX8.out)
    rw [← HQ.out, HC.out] at hr
    have HR := Lib.hid hr
    clear hr
    go_wp2_with fail
    refine HR.out.mono ?_
    rintro e w1 ⟨rfl, hx1⟩
    have HX1 := Lib.hid hx1
    have HF := Lib.hid (heap_alloc_new w1 (.cells #[.int .i64 0, .int .i64 0] 28))
    clear hx1
    simp only [fAgg]
    go_wp2_with (refine wpList_store_row rfl 28 _ _ rfl w1.heap.size #[.int .i64 c, .int .i64 i] rfl rfl 28 _ HF.out sizeF rfl (by kernel_rfl) ?_)
    go_meet
    exact ⟨_, rfl, setRow_heap _ _ _ _ _ _ HF.out, HX1.out.trans (((Ext.refl w1).alloc _).setRow (Nat.le_refl _) _)⟩
  obtain ⟨g9, rfl, hf9, hx9⟩ := hcut
  obtain ⟨wd, rfl⟩ : ∃ wd : World, wd = wc := ⟨_, rfl⟩
  have HX9 := Lib.hid (HX8.out.trans hx9)
  have HF9 := Lib.hid hf9
  have HF8b := Lib.hid (ext_heap hx9 HF8.out)
  have HF6c := Lib.hid (ext_heap hx9 HF6b.out)
  have HS7b := Lib.hid (HS7.out.ext hx9)
  clear hf9 hx9
  go_upto_region 4 with (fail)
  go_cut [10, 11] (fun s10 s11 wx => ∃ A10 c10 g11, s10 = .slice A10 m.length c10 ∧ Sl wx .i64 A10 m ∧ s11 = .pointer (some ⟨g11, 0, none⟩) ∧ wx.heap[g11]? = some (.cells #[.int .i64 rc, .int .i64 ri] 28 (0, 0)) ∧ Ext wd wx)
  case first =>
    have HR := Lib.hid (deckOf_str B wd HB.out)
    go_wp2_with fail
    refine HR.out.mono ?_
    rw [HRD.out]
    rintro e w1 ⟨A7, c7, rfl, hsl, _, hlc, hcm, hx1⟩
    have HX1 := Lib.hid hx1
    have HS := Lib.hid hsl
    have HF := Lib.hid (heap_alloc_new w1 (.cells #[.int .i64 0, .int .i64 0] 28))
    clear hx1 hsl hlc hcm
    simp only [fAgg]
    go_wp2_with (refine wpList_store_row rfl 28 _ _ rfl w1.heap.size #[.int .i64 rc, .int .i64 ri] rfl rfl 28 _ HF.out sizeF rfl (by kernel_rfl) ?_)
    go_meet
    have hxf := ((Ext.refl w1).alloc (.cells #[.int .i64 0, .int .i64 0] 28)).setRow (Nat.le_refl _) #[.int .i64 rc, .int .i64 ri]
    exact ⟨A7, c7, _, rfl, HS.out.ext hxf, rfl, setRow_heap _ _ _ _ _ _ HF.out, HX1.out.trans hxf⟩
  obtain ⟨A10, c10, g11, rfl, hs10, rfl, hf11, hx11⟩ := hcut
  obtain ⟨we, rfl⟩ : ∃ we : World, we = wc := ⟨_, rfl⟩
  have HX11 := Lib.hid (HX9.out.trans hx11)
  have HF11 := Lib.hid hf11
  have HF9b := Lib.hid (ext_heap hx11 HF9.out)
  have HF8c := Lib.hid (ext_heap hx11 HF8b.out)
  have HF6d := Lib.hid (ext_heap hx11 HF6c.out)
  have HS7c := Lib.hid (HS7b.out.ext hx11)
  have HS10 := Lib.hid hs10
  clear hf11 hx11 hs10
  have HD := Lib.hid (decked_c we (HT.out.below HX11.out H2.out) (Nat.le_trans H2.out HX11.out.size))
  go_wp2_with fail
  refine HD.out.mono ?_
  rintro e w1 ⟨rfl, hx1⟩
  have HX1 := Lib.hid hx1
  have k0 : w1.cell? ⟨g6, 0, none⟩ = some (.int .i64 c) := blk_cell (ext_heap hx1 HF6d.out) 0
  have k1 : w1.cell? ⟨g6, 1, none⟩ = some (.int .i64 i) := blk_cell (ext_heap hx1 HF6d.out) 1
  have k2 : w1.cell? ⟨g9, 0, none⟩ = some (.int .i64 c) := blk_cell (ext_heap hx1 HF9b.out) 0
  have k3 : w1.cell? ⟨g9, 1, none⟩ = some (.int .i64 i) := blk_cell (ext_heap hx1 HF9b.out) 1
  have k4 : w1.cell? ⟨g8, 0, none⟩ = some (.int .i64 rc) := blk_cell (ext_heap hx1 HF8c.out) 0
  have k5 : w1.cell? ⟨g8, 1, none⟩ = some (.int .i64 ri) := blk_cell (ext_heap hx1 HF8c.out) 1
  have k6 : w1.cell? ⟨g11, 0, none⟩ = some (.int .i64 rc) := blk_cell (ext_heap hx1 HF11.out) 0
  have k7 : w1.cell? ⟨g11, 1, none⟩ = some (.int .i64 ri) := blk_cell (ext_heap hx1 HF11.out) 1
  have HI := Lib.hid (Ints_c A7 A10 m m c7 c10 w1 HM.out HM.out (HS7c.out.ext hx1) (HS10.out.ext hx1))
  clear hx1
  go_wp2_with fail
  refine HI.out.mono ?_
  rintro e w2 ⟨rfl, n, rfl⟩
  have HX12 := Lib.hid ((HX11.out.trans HX1.out).drewN n)
  by_cases hc0 : c = 0
  rotate_left
  · have hne : (c != 0) = true := by simpa using hc0
    have hw := writeD_bad HC.out hc0
    rw [hw]
    go_wp2_with fail
    go_ret
    exact ⟨rfl, HX12.out⟩
  subst hc0
  obtain ⟨_, hl100, hv⟩ := faultW_code HC.out rfl
  have HWD : Hid ((writeD l).1 = Acc.deckText l) := by
    show _ = _
    unfold writeD; rw [if_pos (faultW_good hl100 hv)]
  have hr := DeckText_c A l c' (w1.drewN n) hl100 hv (H1.out.ext HX12.out)
  rw [← HQ.out, ← HWD.out] at hr
  have HR := Lib.hid hr
  clear hr hl100 hv
  go_wp2_with fail
  refine HR.out.mono ?_
  rintro e w2 ⟨rfl, hx2⟩
  have HX2 := Lib.hid (HX12.out.trans hx2)
  clear hx2
  go_wp2_with fail
  go_ret
  exact ⟨rfl, HX2.out⟩
end Go.Proofs.YtbaahbpianingaaDoor
