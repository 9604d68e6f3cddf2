import Derived.Test.YtbaahbpianingaaGreatDoorMg24
import Derived.Test.YtbaahbpianingaaGreatDoorTzI
import Derived.Test.YtbaahbpianingaaGreatDoorMg22
namespace Go.Proofs.YtbaahbpianingaaGreatDoor
open Go Go.Proofs Go.RowKit
open Tape (Rule Ts splitP)
set_option maxHeartbeats 6400000
set_option maxRecDepth 100000
theorem writeT_two (L : List Rule) : (writeT L).2 = faultR L := by
  unfold writeT
  split
  · rename_i h; exact h.symm
  · rfl
theorem writeT_no {l : List Rule} {c i : Int} (h : faultR l = (c, i)) (hc : c ≠ 0) : strOfNums (writeT l).1 = ⟨#[]⟩ := by
  unfold writeT
  rw [if_neg (by rw [h]; intro q; injection q with q _; exact hc q)]
  rfl
theorem rulesMatch_c (A : Option Addr) (l : List Rule) (c' : Nat) (B : ByteArray) (w : World) (hl : l.length ≤ maxLen) (h1 : Rls w A l) (hwf : ∀ r ∈ l, RuleWf r) (hB : B.size ≤ maxLen) (ht : TabT w) : Calls Tryz.prog 4 #[.slice A l.length c', .string B] w (BRet w true) := by
  have HT := Lib.hid ht
  have HWF := Lib.hid hwf
  have HL := Lib.hid hl
  have H1 := Lib.hid h1
  have HB := Lib.hid hB
  clear ht hl h1 hB hwf
  obtain ⟨q, hq⟩ : ∃ q, q = l.length := ⟨_, rfl⟩
  have HQ := Lib.hid hq
  rw [← hq]
  clear hq
  obtain ⟨c, i, hci⟩ : ∃ c i : Int, faultR l = (c, i) := ⟨_, _, rfl⟩
  have HC := Lib.hid hci
  clear hci
  obtain ⟨m, rc, ri, hrd⟩ : ∃ m rc ri, readT (numsT B) = (m, (rc, ri)) := ⟨_, _, _, rfl⟩
  have HRD := Lib.hid hrd
  clear hrd
  go_enter Tryz.func4, Tryz.ntmps4
  go_upto_region 1 with (fail)
  go_cut [5, 6] (fun s5 s6 wx => ∃ g, s5 = .string (strOfNums (writeT l).1) ∧ s6 = .pointer (some ⟨g, 0, none⟩) ∧ wx.heap[g]? = some (.cells #[.int .i64 c, .int .i64 i] 27 (0, 0)) ∧ Ext w wx)
  case first =>
    have hr := writeT_all A l c' w HL.out H1.out HWF.out HT.out
    rw [← HQ.out] at hr
    have HR := Lib.hid hr
    clear hr
    go_wp2_with fail
    refine HR.out.mono ?_
    rintro e w1 ⟨he, hx1⟩
    rw [writeT_two, HC.out] at he
    subst he
    have HX1 := Lib.hid hx1
    have HF := Lib.hid (heap_alloc_new w1 (.cells #[.int .i64 0, .int .i64 0] 27))
    clear hx1
    simp only [fAgg]
    go_wp2_with (refine wpList_store_row rfl 27 _ _ rfl w1.heap.size #[.int .i64 c, .int .i64 i] rfl rfl 27 _ HF.out sizeF rfl (by kernel_rfl) ?_)
    go_meet
    exact ⟨_, rfl, rfl, setRow_heap _ _ _ _ _ _ HF.out, HX1.out.trans (((Ext.refl w1).alloc _).setRow (Nat.le_refl _) _)⟩
  obtain ⟨g6, rfl, rfl, hf6, hx6⟩ := hcut
  obtain ⟨wa, rfl⟩ : ∃ wa : World, wa = wc := ⟨_, rfl⟩
  have HX6 := Lib.hid hx6
  have HF6 := Lib.hid hf6
  clear hf6 hx6
  go_upto_region 2 with (fail)
  go_cut [7, 8] (fun s7 s8 wx => ∃ A7 c7 g8, s7 = .slice A7 m.length c7 ∧ Rls wx A7 m ∧ m.length ≤ maxLen ∧ s8 = .pointer (some ⟨g8, 0, none⟩) ∧ wx.heap[g8]? = some (.cells #[.int .i64 rc, .int .i64 ri] 27 (0, 0)) ∧ Ext wa wx)
  case first =>
    have HR := Lib.hid (readT_all B wa HB.out (HT.out.ext HX6.out))
    go_wp2_with fail
    refine HR.out.mono ?_
    rw [HRD.out]
    rintro e w1 ⟨v7, rfl, ho, hx1⟩
    obtain ⟨A7, c7, rfl, hlc, hcm, _, hsl⟩ := own_sl5 ho
    have HX1 := Lib.hid hx1
    have HS := Lib.hid hsl
    have HM := Lib.hid (Nat.le_trans hlc hcm)
    have HF := Lib.hid (heap_alloc_new w1 (.cells #[.int .i64 0, .int .i64 0] 27))
    clear hx1 hsl hlc hcm ho
    simp only [fAgg]
    go_wp2_with (refine wpList_store_row rfl 27 _ _ rfl w1.heap.size #[.int .i64 rc, .int .i64 ri] rfl rfl 27 _ HF.out sizeF rfl (by kernel_rfl) ?_)
    go_meet
    have hxf := ((Ext.refl w1).alloc (.cells #[.int .i64 0, .int .i64 0] 27)).setRow (Nat.le_refl _) #[.int .i64 rc, .int .i64 ri]
    exact ⟨A7, c7, _, rfl, Rls.ext HS.out hxf, HM.out, rfl, setRow_heap _ _ _ _ _ _ HF.out, HX1.out.trans hxf⟩
  obtain ⟨A7, c7, g8, rfl, hs7, hm7, rfl, hf8, hx8⟩ := hcut
  obtain ⟨wb, rfl⟩ : ∃ wb : World, wb = wc := ⟨_, rfl⟩
  have HX8 := Lib.hid (HX6.out.trans hx8)
  have HF8 := Lib.hid hf8
  have HF6b := Lib.hid (ext_heap hx8 HF6.out)
  have HS7 := Lib.hid hs7
  have HM := Lib.hid hm7
  clear hf8 hx8 hs7 hm7
  go_upto_region 3 with (fail)
  go_cut [9] (fun s9 wx => ∃ g9, s9 = .pointer (some ⟨g9, 0, none⟩) ∧ wx.heap[g9]? = some (.cells #[.int .i64 c, .int .i64 i] 27 (0, 0)) ∧ Ext wb wx)
  case first =>
    have hr := RulesFault_c A l c' wb HL.out (H1.out.ext HX8.out) HWF.out
    rw [← HQ.out, HC.out] at hr
    have HR := Lib.hid hr
    clear hr
    go_wp2_with fail
    refine HR.out.mono ?_
    rintro e w1 ⟨rfl, hx1⟩
    have HX1 := Lib.hid hx1
    have HF := Lib.hid (heap_alloc_new w1 (.cells #[.int .i64 0, .int .i64 0] 27))
    clear hx1
    simp only [fAgg]
    go_wp2_with (refine wpList_store_row rfl 27 _ _ rfl w1.heap.size #[.int .i64 c, .int .i64 i] rfl rfl 27 _ HF.out sizeF rfl (by kernel_rfl) ?_)
    go_meet
    exact ⟨_, rfl, setRow_heap _ _ _ _ _ _ HF.out, HX1.out.trans (((Ext.refl w1).alloc _).setRow (Nat.le_refl _) _)⟩
  obtain ⟨g9, rfl, hf9, hx9⟩ := hcut
  obtain ⟨wd, rfl⟩ : ∃ wd : World, wd = wc := ⟨_, rfl⟩
  have HX9 := Lib.hid (HX8.out.trans hx9)
  have HF9 := Lib.hid hf9
  have HF8b := Lib.hid (ext_heap hx9 HF8.out)
  have HF6c := Lib.hid (ext_heap hx9 HF6b.out)
  have HS7b := Lib.hid (HS7.out.ext hx9)
  clear hf9 hx9
  go_upto_region 4 with (fail)
  go_cut [10, 11] (fun s10 s11 wx => ∃ A10 c10 g11, s10 = .slice A10 m.length c10 ∧ Rls wx A10 m ∧ s11 = .pointer (some ⟨g11, 0, none⟩) ∧ wx.heap[g11]? = some (.cells #[.int .i64 rc, .int .i64 ri] 27 (0, 0)) ∧ Ext wd wx)
  case first =>
    have HR := Lib.hid (RulesOf_c B wd HB.out)
    go_wp2_with fail
    refine HR.out.mono ?_
    rw [HRD.out]
    rintro e w1 ⟨v7, rfl, ho, hx1⟩
    obtain ⟨A7, c7, rfl, hlc, hcm, _, hsl⟩ := own_sl5 ho
    have HX1 := Lib.hid hx1
    have HS := Lib.hid hsl
    have HF := Lib.hid (heap_alloc_new w1 (.cells #[.int .i64 0, .int .i64 0] 27))
    clear hx1 hsl hlc hcm ho
    simp only [fAgg]
    go_wp2_with (refine wpList_store_row rfl 27 _ _ rfl w1.heap.size #[.int .i64 rc, .int .i64 ri] rfl rfl 27 _ HF.out sizeF rfl (by kernel_rfl) ?_)
    go_meet
    have hxf := ((Ext.refl w1).alloc (.cells #[.int .i64 0, .int .i64 0] 27)).setRow (Nat.le_refl _) #[.int .i64 rc, .int .i64 ri]
    exact ⟨A7, c7, _, rfl, Rls.ext HS.out hxf, rfl, setRow_heap _ _ _ _ _ _ HF.out, HX1.out.trans hxf⟩
  obtain ⟨A10, c10, g11, rfl, hs10, rfl, hf11, hx11⟩ := hcut
  obtain ⟨we, rfl⟩ : ∃ we : World, we = wc := ⟨_, rfl⟩
  have HX11 := Lib.hid (HX9.out.trans hx11)
  have HF11 := Lib.hid hf11
  have HF9b := Lib.hid (ext_heap hx11 HF9.out)
  have HF8c := Lib.hid (ext_heap hx11 HF8b.out)
  have HF6d := Lib.hid (ext_heap hx11 HF6c.out)
  have HS7c := Lib.hid (HS7b.out.ext hx11)
  have HS10 := Lib.hid hs10
  clear hf11 hx11 hs10
  have HD := Lib.hid (taped_c we (HT.out.ext HX11.out))
  go_wp2_with fail
  refine HD.out.mono ?_
  rintro e w1 ⟨rfl, hx1⟩
  have HX1 := Lib.hid hx1
  have k0 : w1.cell? ⟨g6, 0, none⟩ = some (.int .i64 c) := blk_cell (ext_heap hx1 HF6d.out) 0
  have k1 : w1.cell? ⟨g6, 1, none⟩ = some (.int .i64 i) := blk_cell (ext_heap hx1 HF6d.out) 1
  have k2 : w1.cell? ⟨g9, 0, none⟩ = some (.int .i64 c) := blk_cell (ext_heap hx1 HF9b.out) 0
  have k3 : w1.cell? ⟨g9, 1, none⟩ = some (.int .i64 i) := blk_cell (ext_heap hx1 HF9b.out) 1
  have k4 : w1.cell? ⟨g8, 0, none⟩ = some (.int .i64 rc) := blk_cell (ext_heap hx1 HF8c.out) 0
  have k5 : w1.cell? ⟨g8, 1, none⟩ = some (.int .i64 ri) := blk_cell (ext_heap hx1 HF8c.out) 1
  have k6 : w1.cell? ⟨g11, 0, none⟩ = some (.int .i64 rc) := blk_cell (ext_heap hx1 HF11.out) 0
  have k7 : w1.cell? ⟨g11, 1, none⟩ = some (.int .i64 ri) := blk_cell (ext_heap hx1 HF11.out) 1
  have HI := Lib.hid (SameRules_c A7 A10 m m c7 c10 w1 HM.out HM.out (HS7c.out.ext hx1) (HS10.out.ext hx1))
  clear hx1
  go_wp2_with fail
  refine HI.out.mono ?_
  rintro e w2 ⟨rfl, n, rfl⟩
  have HX12 := Lib.hid ((HX11.out.trans HX1.out).drewN n)
  by_cases hc0 : c = 0
  rotate_left
  · have hne : (c != 0) = true := by simpa using hc0
    have hw := writeT_no HC.out hc0
    rw [hw]
    go_wp2_with fail
    go_ret
    exact ⟨rfl, HX12.out⟩
  subst hc0
  have hf0 : faultR l = (0, 0) := by
    by_cases q : faultR l = (0, 0)
    · exact q
    · exact absurd (by rw [HC.out]) (faultR_code q)
  have HWD : Hid ((writeT l).1 = Tape.textR l) := by
    show _ = _
    unfold writeT; rw [if_pos hf0]
  have hr := RulesText_c A l c' (w1.drewN n) (H1.out.ext HX12.out) hf0
  rw [← HQ.out, ← HWD.out] at hr
  have HR := Lib.hid hr
  clear hr hf0
  go_wp2_with fail
  refine HR.out.mono ?_
  rintro e w2 ⟨rfl, hx2⟩
  have HX2 := Lib.hid (HX12.out.trans hx2)
  clear hx2
  go_wp2_with fail
  go_ret
  exact ⟨rfl, HX2.out⟩
end Go.Proofs.YtbaahbpianingaaGreatDoor
