import Derived.Test.YtbaahbpianingaaDoorAddD
namespace Go.Proofs.YtbaahbpianingaaDoor
open Go Go.Proofs Go.RowKit
open Acc (Dk red five)
set_option maxHeartbeats 6400000
set_option maxRecDepth 100000
/-- The bytes of a text, as numbers. -/
def numsOf (B : ByteArray) : List Int := B.data.toList.map (fun b => (b.toNat : Int))
theorem numsOf_byt (B : ByteArray) : Byt (numsOf B) := by
  intro x hx
  obtain ⟨b, _, rfl⟩ := List.mem_map.1 hx
  have := b.toNat_lt
  omega
theorem strOf_numsOf (B : ByteArray) : strOfNums (numsOf B) = B := by
  have h : strOfNums (numsOf B) = ⟨B.data⟩ := by
    unfold strOfNums numsOf
    congr 1
    rw [List.map_map]
    have : ((fun n : Int => UInt8.ofNat n.toNat) ∘ fun b : UInt8 => (b.toNat : Int)) = id := by
      funext b
      simp
    rw [this, List.map_id]
  rw [h]
theorem numsOf_len (B : ByteArray) : (numsOf B).length = B.size := by
  unfold numsOf
  rw [List.length_map, Array.length_toList]
  rfl
theorem read_str (B : ByteArray) (w : World) (hB : B.size ≤ maxLen) : Calls Tryd.prog 24 #[.string B] w (DRet w (Acc.readDeck (numsOf B))) := by
  have h : Calls Tryd.prog 24 #[.string (strOfNums (numsOf B))] w (DRet w (Acc.readDeck (numsOf B))) := by
    by_cases hl : 1000 < (numsOf B).length
    · exact read_long _ w (by rw [numsOf_len]; exact hB) hl
    · exact read_all _ w (numsOf_byt B) (by omega)
  rw [strOf_numsOf] at h
  exact h
theorem readGo_code (i : Nat) (last : Int) (out text : List Int) : (Acc.readGo i last out text).2 = (0, 0) ∨ ((Acc.readGo i last out text).2.1 ≠ 0 ∧ (Acc.readGo i last out text).1 = []) := by
  fun_induction Acc.readGo i last out text <;> simp_all
  all_goals (rw [if_neg (by omega)]; assumption)
theorem readDeck_code (t : List Int) : (Acc.readDeck t).2 = (0, 0) ∨ ((Acc.readDeck t).2.1 ≠ 0 ∧ (Acc.readDeck t).1 = []) := by
  unfold Acc.readDeck
  split
  · right; exact ⟨by decide, rfl⟩
  · exact readGo_code _ _ _ _
theorem dec_byt (n : Nat) : Byt (Acc.dec n) := by
  intro c hc
  have := Acc.signed_byt (n : Int) c
  unfold Acc.signed at this
  rw [if_neg (by omega), Int.toNat_natCast] at this
  exact this hc
theorem pad_byt {k : Nat} {l : List Int} (h : Byt l) : Byt (Acc.pad k l) := by
  intro c hc
  unfold Acc.pad at hc
  rcases List.mem_append.1 hc with q | q
  · rw [List.eq_of_mem_replicate q]; omega
  · exact h c q
theorem card_byt (i : Nat) (v : Int) : Byt (Acc.cardF i v) := by
  intro c hc
  unfold Acc.cardF at hc
  rcases List.mem_append.1 hc with q | q
  · rcases List.mem_append.1 q with q | q
    · rcases List.mem_append.1 q with q | q
      · exact pad_byt (dec_byt _) c q
      · rcases List.mem_cons.1 q with q | q
        · subst q; omega
        · rw [List.mem_singleton.1 q]; split <;> omega
    · exact pad_byt (dec_byt _) c q
  · rw [List.mem_singleton.1 q]; omega
theorem deckGo_byt : ∀ (l : List Int) (i : Nat), Byt (Acc.deckGo i l)
  | [], _ => by rw [Acc.deckGo]; exact byt_nil
  | v :: r, i => by
    rw [Acc.deckGo]
    intro c hc
    rcases List.mem_append.1 hc with q | q
    · split at q
      · simp at q
      · exact card_byt _ _ c q
    · exact deckGo_byt r (i + 1) c q
theorem faultW_code {l : List Int} {c i : Int} (h : faultW l = (c, i)) : c = 0 → i = 0 ∧ l.length ≤ 100 ∧ ∀ v ∈ l, five v = true := by
  unfold faultW at h
  split at h
  · injection h with h1 h2; intro h0; omega
  split at h
  · injection h with h1 h2; intro h0; omega
  · rename_i h1 h2
    injection h with h3 h4
    exact fun _ => ⟨h4.symm, by omega, badI_fine (by omega)⟩
theorem faultW_good {l : List Int} (h1 : l.length ≤ 100) (h2 : ∀ v ∈ l, five v = true) : faultW l = (0, 0) := by
  unfold faultW
  rw [if_neg (by omega), badI_all h2]
  rfl
theorem writeD_two (l : List Int) : (writeD l).2 = faultW l := by
  unfold writeD
  split
  · rename_i h; exact h.symm
  · rfl
def padded (l : List Int) : List Int := l ++ List.replicate (100 - l.length) 0
theorem padded_len {l : List Int} (h : l.length ≤ 100) : (padded l).length = 100 := by unfold padded; simp; omega
theorem padded_get {l : List Int} (_h : l.length ≤ 100) (k : Nat) : (padded l)[k]?.getD 0 = l[k]?.getD 0 := by
  unfold padded
  by_cases hk : k < l.length
  · rw [List.getElem?_append_left hk]
  · rw [List.getElem?_append_right (by omega), List.getElem?_replicate, List.getElem?_eq_none (by omega)]
    split <;> rfl
theorem read_deck {l : List Int} (w : World) (hl : l.length ≤ 100) (hv : ∀ v ∈ l, five v = true) : Calls Tryd.prog 24 #[.string (strOfNums (Acc.deckText l))] w fun e w' =>
    ∃ A c, e = .returned (.tuple #[.slice A 100 c, .agg #[.int .i64 0, .int .i64 0]]) ∧ Sl w' .i64 A (padded l) ∧ Ext w w' := by
  have hb : Byt (Acc.deckText l) := deckGo_byt l 0
  have hlen : (Acc.deckText l).length ≤ 1000 := by have := Acc.deckGo_len l 0 (by omega) hv; unfold Acc.deckText; omega
  have h := read_all (Acc.deckText l) w hb hlen
  rw [Acc.read_written hl hv] at h
  refine h.mono fun e w' ⟨A, c, h1, h2, _, _, _, h6⟩ => ⟨A, c, ?_, h2, h6⟩
  rw [h1]
  have : (l ++ List.replicate (100 - l.length) 0).length = 100 := padded_len hl
  simp only [this, fAgg]
theorem again_c (A : Option Addr) (l : List Int) (c' : Nat) (B : ByteArray) (w : World) (hl : l.length ≤ maxLen) (h1 : Sl w .i64 A l) (hB : B.size ≤ maxLen) (ht : Tabs w) : Calls Tryd.prog 7 #[.slice A l.length c', .string B] w (BRet w true) := by
  have HT := Lib.hid ht
  have H2 := Lib.hid (tabs_two ht)
  have HL := Lib.hid hl
  have H1 := Lib.hid h1
  have HB := Lib.hid hB
  clear ht hl h1 hB
  obtain ⟨q, hq⟩ : ∃ q, q = l.length := ⟨_, rfl⟩
  have HQ := Lib.hid hq
  rw [← hq]
  clear hq
  go_enter Tryd.func7, Tryd.ntmps7
  go_upto_region 3 with (go_at_call 19; refine (decked_c _ HT.out H2.out).mono ?_; rintro e w0 ⟨rfl, hx0⟩; have HX0 := Lib.hid hx0; clear hx0)
  obtain ⟨c, i, hci⟩ : ∃ c i : Int, faultW l = (c, i) := ⟨_, _, rfl⟩
  have HC := Lib.hid hci
  clear hci
  go_cut [5, 6] (fun s5 s6 wx => ∃ g, s5 = .string (strOfNums (writeD l).1) ∧ s6 = .pointer (some ⟨g, 0, none⟩) ∧ wx.heap[g]? = some (.cells #[.int .i64 c, .int .i64 i] 28 (0, 0)) ∧ Ext w wx)
  case first =>
    have hr := write_all A l c' w0 HL.out (H1.out.ext HX0.out) (HT.out.below HX0.out H2.out) (Nat.le_trans H2.out HX0.out.size)
    rw [← HQ.out] at hr
    have HR := Lib.hid hr
    clear hr
    go_wp2_with fail
    refine HR.out.mono ?_
    rintro e w1 ⟨he, hx1⟩
    rw [writeD_two, HC.out] at he
    subst he
    have HX1 := Lib.hid hx1
    have HF := Lib.hid (heap_alloc_new w1 (.cells #[.int .i64 0, .int .i64 0] 28))
    clear hx1
    simp only [fAgg]
    go_wp2_with (refine wpList_store_row rfl 28 _ _ rfl w1.heap.size #[.int .i64 c, .int .i64 i] rfl rfl 28 _ HF.out sizeF rfl (by kernel_rfl) ?_)
    go_meet
    exact ⟨_, rfl, rfl, setRow_heap _ _ _ _ _ _ HF.out, (HX0.out.trans HX1.out).trans (((Ext.refl w1).alloc _).setRow (Nat.le_refl _) _)⟩
  obtain ⟨g6, rfl, rfl, hf6, hx6⟩ := hcut
  obtain ⟨wa, rfl⟩ : ∃ wa : World, wa = wc := ⟨_, rfl⟩
  have HX6 := Lib.hid hx6
  have kc : wa.cell? ⟨g6, 0, none⟩ = some (.int .i64 c) := blk_cell hf6 0
  clear hf6 hx6
  go_upto_if 24 with (fail)
  go_cut [] (fun wx => Ext w wx)
  case first =>
    by_cases hc0 : c = 0
    rotate_left
    · have hne : (c == 0) = false := by simpa using hc0
      go_wp2_with fail
      go_meet
      exact HX6.out
    subst hc0
    obtain ⟨_, hl100, hv⟩ := faultW_code HC.out rfl
    have HV := Lib.hid hv
    have HLL := Lib.hid hl100
    have HWD : Hid ((writeD l).1 = Acc.deckText l) := by
      show _ = _
      unfold writeD; rw [if_pos (faultW_good hl100 hv)]
    have hq100 : q ≤ 100 := by rw [HQ.out]; exact hl100
    clear hv hl100
    go_upto_region 5 with (fail)
    go_cut [7, 8] (fun s7 s8 wx => ∃ A7 c7 g8, s7 = .slice A7 100 c7 ∧ Sl wx .i64 A7 (padded l) ∧ s8 = .pointer (some ⟨g8, 0, none⟩) ∧ wx.heap[g8]? = some (.cells #[.int .i64 0, .int .i64 0] 28 (0, 0)) ∧ Ext w wx)
    case first =>
      have hr := read_deck wa HLL.out HV.out
      rw [← HWD.out] at hr
      have HR := Lib.hid hr
      clear hr
      go_wp2_with fail
      refine HR.out.mono ?_
      rintro e w1 ⟨A7, c7, rfl, hsl, hx1⟩
      have HX1 := Lib.hid hx1
      have HS := Lib.hid hsl
      clear hx1 hsl
      go_wp2_with fail
      go_meet
      exact ⟨A7, c7, _, rfl, HS.out.ext ((Ext.refl w1).alloc _), rfl, heap_alloc_new w1 _, (HX6.out.trans HX1.out).trans ((Ext.refl w1).alloc _)⟩
    obtain ⟨A7, c7, g8, rfl, hs7, rfl, hf8, hx8⟩ := hcut
    obtain ⟨wb, rfl⟩ : ∃ wb : World, wb = wc := ⟨_, rfl⟩
    have HX8 := Lib.hid hx8
    have HS7 := Lib.hid hs7
    have HS1 := Lib.hid (H1.out.ext hx8)
    have k8 : wb.cell? ⟨g8, 0, none⟩ = some (.int .i64 0) := blk_cell hf8 0
    clear hf8 hx8 hs7 kc
    go_wp2
    go_loop [9, 10] (fun i n => ∃ k : Nat, k ≤ 100 ∧ i = .int .i64 k) (fun i _ => 100 - (intOf i).toNat)
    case atStart => exact ⟨0, Nat.zero_le _, rfl⟩
    case round =>
      obtain ⟨k, hk, rfl⟩ := hrel
      by_cases hlt : k < 100
      · obtain ⟨b, o, rfl, ha⟩ := HS7.out.at_ (i := k) (by rw [padded_len HLL.out]; exact hlt)
        rw [padded_get HLL.out] at ha
        by_cases hk2 : k < q
        · obtain ⟨b', o', rfl, hb⟩ := HS1.out.at_ (i := k) (by rw [← HQ.out]; exact hk2)
          generalize l[k]?.getD 0 = v at *
          go_wp2
          refine ⟨⟨k + 1, by omega, by go_num⟩, by simp [intOf]; omega⟩
        · have hz : l[k]?.getD 0 = 0 := by rw [List.getElem?_eq_none (by rw [← HQ.out]; omega)]; rfl
          rw [hz] at ha
          go_wp2
          refine ⟨⟨k + 1, by omega, by go_num⟩, by simp [intOf]; omega⟩
      · go_wp2
        go_meet
        exact HX8.out
  obtain ⟨wd, rfl⟩ : ∃ wd : World, wd = wc := ⟨_, rfl⟩
  have HX9 := Lib.hid hcut
  clear hcut kc
  obtain ⟨m, rc, ri, hrd⟩ : ∃ m rc ri, Acc.readDeck (numsOf B) = (m, (rc, ri)) := ⟨_, _, _, rfl⟩
  have HRD := Lib.hid hrd
  clear hrd
  go_upto_region 16 with (fail)
  go_cut [11, 12] (fun s11 s12 wx => ∃ A11 c11 g12, s11 = .slice A11 m.length c11 ∧ Sl wx .i64 A11 m ∧ m.length ≤ maxLen ∧ s12 = .pointer (some ⟨g12, 0, none⟩) ∧ wx.heap[g12]? = some (.cells #[.int .i64 rc, .int .i64 ri] 28 (0, 0)) ∧ Ext w wx)
  case first =>
    have HR := Lib.hid (read_str B wd HB.out)
    go_wp2_with fail
    refine HR.out.mono ?_
    rw [HRD.out]
    rintro e w1 ⟨A7, c7, rfl, hsl, _, hlc, hcm, hx1⟩
    have HX1 := Lib.hid hx1
    have HS := Lib.hid hsl
    have HM := Lib.hid (Nat.le_trans hlc hcm)
    have HF := Lib.hid (heap_alloc_new w1 (.cells #[.int .i64 0, .int .i64 0] 28))
    clear hx1 hsl hlc hcm
    simp only [fAgg]
    go_wp2_with (refine wpList_store_row rfl 28 _ _ rfl w1.heap.size #[.int .i64 rc, .int .i64 ri] rfl rfl 28 _ HF.out sizeF rfl (by kernel_rfl) ?_)
    go_meet
    have hxf := ((Ext.refl w1).alloc (.cells #[.int .i64 0, .int .i64 0] 28)).setRow (Nat.le_refl _) #[.int .i64 rc, .int .i64 ri]
    exact ⟨A7, c7, _, rfl, HS.out.ext hxf, HM.out, rfl, setRow_heap _ _ _ _ _ _ HF.out, (HX9.out.trans HX1.out).trans hxf⟩
  obtain ⟨A11, c11, g12, rfl, hs11, hm, rfl, hf12, hx12⟩ := hcut
  obtain ⟨we, rfl⟩ : ∃ we : World, we = wc := ⟨_, rfl⟩
  have HX12 := Lib.hid hx12
  have HS11 := Lib.hid hs11
  have HM := Lib.hid hm
  have k12 : we.cell? ⟨g12, 0, none⟩ = some (.int .i64 rc) := blk_cell hf12 0
  clear hf12 hx12 hs11 hm
  by_cases hrc : rc = 0
  rotate_left
  · have hne : (rc != 0) = true := by simpa using hrc
    have hmn : m = [] := by
      rcases readDeck_code (numsOf B) with h | ⟨_, h⟩
      · rw [HRD.out] at h; injection h with h _; exact absurd h hrc
      · rw [HRD.out] at h; exact h
    subst hmn
    go_wp2_with fail
    go_ret
    exact ⟨rfl, HX12.out⟩
  subst hrc
  have hri : ri = 0 := by
    rcases readDeck_code (numsOf B) with h | ⟨h, _⟩
    · rw [HRD.out] at h; injection h with _ h
    · rw [HRD.out] at h; exact absurd rfl h
  subst hri
  obtain ⟨e1, e2, e3⟩ := Acc.written_read HRD.out
  have HWD : Hid (writeD m = (numsOf B, (0, 0))) := by
    show _ = _
    unfold writeD; rw [if_pos (faultW_good (by omega) e3), e1]
  have HE2 := Lib.hid e2
  clear e1 e2 e3
  go_upto_region 19 with (fail)
  go_cut [13, 14] (fun s13 s14 wx => ∃ g, s13 = .string B ∧ s14 = .pointer (some ⟨g, 0, none⟩) ∧ wx.heap[g]? = some (.cells #[.int .i64 0, .int .i64 0] 28 (0, 0)) ∧ Ext w wx)
  case first =>
    have HR := Lib.hid (write_all A11 m c11 we HM.out HS11.out (HT.out.below HX12.out H2.out) (Nat.le_trans H2.out HX12.out.size))
    go_wp2_with fail
    refine HR.out.mono ?_
    rw [HWD.out]
    rintro e w1 ⟨he, hx1⟩
    rw [strOf_numsOf] at he
    subst he
    have HX1 := Lib.hid hx1
    clear hx1
    simp only [fAgg]
    go_wp2_with fail
    go_meet
    exact ⟨_, rfl, rfl, heap_alloc_new w1 _, (HX12.out.trans HX1.out).trans ((Ext.refl w1).alloc _)⟩
  obtain ⟨g14, rfl, rfl, hf14, hx14⟩ := hcut
  obtain ⟨wf, rfl⟩ : ∃ wf : World, wf = wc := ⟨_, rfl⟩
  have k14 : wf.cell? ⟨g14, 0, none⟩ = some (.int .i64 0) := blk_cell hf14 0
  have HX14 := Lib.hid hx14
  clear hf14 hx14
  go_wp2_with fail
  go_ret
  exact ⟨rfl, HX14.out⟩
end Go.Proofs.YtbaahbpianingaaDoor
