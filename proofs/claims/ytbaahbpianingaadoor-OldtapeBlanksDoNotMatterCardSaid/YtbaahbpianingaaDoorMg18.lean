import Derived.Test.YtbaahbpianingaaDoorMg17
import Derived.RegionTactic
import Derived.Lib.ConvBytes
import Derived.Lib.AtoiErrMem
namespace Go.Proofs.YtbaahbpianingaaDoor
open Go Go.Proofs Go.RowKit
open Acc (Dk red five)
set_option maxHeartbeats 4000000
set_option maxRecDepth 100000
def writeD (l : List Int) : List Int × (Int × Int) := if faultW l = (0, 0) then (Acc.deckText l, (0, 0)) else ([], faultW l)
def WRet (w : World) (r : List Int × (Int × Int)) (e : Ending) (w' : World) : Prop := e = .returned (.tuple #[.string (strOfNums r.1), fAgg r.2]) ∧ Ext w w'
theorem wret {w w' : World} {a : ByteArray} {p : Int × Int} {l : List Int} (h : a = strOfNums l) (hx : Ext w w') : WRet w (l, p) (.returned (.tuple #[.string a, fAgg p])) w' := ⟨by rw [h], hx⟩
theorem ext_bcell {w w1 : World} (h : Ext w w1) : (∀ b o, b < w.heap.size → w1.cell? ⟨b, o, none⟩ = w.cell? ⟨b, o, none⟩) ∧ (∀ b o, b < w.heap.size → w1.frozen? ⟨b, o, none⟩ = w.frozen? ⟨b, o, none⟩) :=
  ⟨fun b o q => Below.cell (p := ⟨b, o, none⟩) h q, fun b o q => Below.frozen (p := ⟨b, o, none⟩) h q⟩
/-- A block of two numbers. -/
structure Blk2 (w : World) (g : Nat) (c i : Int) : Prop where
  c0 : w.cell? ⟨g, 0, none⟩ = some (.int .i64 c)
  c1 : w.cell? ⟨g, 1, none⟩ = some (.int .i64 i)
  f0 : w.frozen? ⟨g, 0, none⟩ = false
  f1 : w.frozen? ⟨g, 1, none⟩ = false
theorem Blk2.mk' {w : World} {g : Nat} {c i : Int} (h : w.heap[g]? = some (.cells #[.int .i64 c, .int .i64 i] 28 (0, 0))) : Blk2 w g c i :=
  ⟨blk_cell h 0, blk_cell h 1, blk_frozen h 0, blk_frozen h 1⟩
theorem results_tc {P : Program} {fn : Func} {u q : Tmp} {tq : TypeId} (h : fn.results = #[.tmp u, .cell q tq]) (tmps : Array Value) (w : World) (g' : Nat) (t' : TypeId) (cs' : Array Value) (fr' : Nat × Nat) (d' : TypeDesc)
    (hq : tmps.getD q undef = .pointer (some ⟨g', 0, none⟩)) (hg' : w.heap[g']? = some (.cells cs' t' fr')) (hu' : P.underlying tq = some d') (hd' : (match d' with | .struct _ | .array _ _ => true | _ => false) = true) (hi' : (P.info? tq).map (·.size) = some cs'.size) :
    (results fn tmps).run P w = .ok (.tuple #[tmps.getD u undef, .agg cs']) w := by
  have hq' : tmps[q]?.getD undef = .pointer (some ⟨g', 0, none⟩) := by simpa using hq
  simp [results, h, hq', asAddr, run_loadVar_row w g' t' tq cs' fr' d' hg' hu' hd' hi']
theorem fblk_set {w1 : World} {g : Nat} {c i c' i' : Int} (h : w1.heap[g]? = some (.cells #[.int .i64 c', .int .i64 i'] 28 (0, 0))) : ((w1.setCell ⟨g, 0, none⟩ (.int .i64 c)).setCell ⟨g, 1, none⟩ (.int .i64 i)).heap[g]? = some (.cells #[.int .i64 c, .int .i64 i] 28 (0, 0)) :=
  heap_set_self (heap_set_self h 0 _) 1 _
theorem fblk_fin {w1 : World} {g : Nat} {c i c' i' : Int} (h : w1.heap[g]? = some (.cells #[.int .i64 c', .int .i64 i'] 28 (0, 0))) (o : Obj) : (((w1.setCell ⟨g, 0, none⟩ (.int .i64 c)).setCell ⟨g, 1, none⟩ (.int .i64 i)).alloc o).heap[g]? = some (.cells #[.int .i64 c, .int .i64 i] 28 (0, 0)) := by
  rw [Below.heap_alloc _ _ _ (by have := (Array.getElem?_eq_some_iff.1 h).1; simpa using this)]
  exact fblk_set h
theorem ext_set2 {w w1 : World} (h : Ext w w1) {g : Nat} (hg : w.heap.size ≤ g) (u v : Value) : Ext w ((w1.setCell ⟨g, 0, none⟩ u).setCell ⟨g, 1, none⟩ v) :=
  Ext.setCell (p := ⟨g, 1, none⟩) (Ext.setCell (p := ⟨g, 0, none⟩) h hg u) hg v
theorem write_bad (A : Option Addr) (l : List Int) (c' : Nat) (w : World) (hl : l.length ≤ maxLen) (h1 : Sl w .i64 A l) (hf : faultW l ≠ (0, 0)) : Calls Tryd.prog 23 #[.slice A l.length c'] w (WRet w (writeD l)) := by
  have he : writeD l = ([], faultW l) := by unfold writeD; rw [if_neg hf]
  rw [he]
  have HC := Lib.hid (fun (W : World) (hx : Ext w W) => checkWords_c A l c' W hl (h1.ext hx))
  obtain ⟨p, hp⟩ : ∃ p, faultW l = p := ⟨_, rfl⟩
  obtain ⟨c, i⟩ := p
  have q1 := faultW_ne hp hf
  have q2 : ¬ c = 0 := by simpa using q1
  rw [hp] at HC ⊢
  clear hp he hf h1
  go_enter Tryd.func23, Tryd.ntmps23
  go_wp2_with fail
  refine (HC.out _ ((Ext.refl w).alloc _)).mono ?_
  rintro e w1 ⟨rfl, hx1⟩
  have HX := Lib.hid (((Ext.refl w).alloc (.cells #[.int .i64 0, .int .i64 0] 28)).trans hx1)
  have HBK := Lib.hid (ext_heap hx1 (heap_alloc_new w (.cells #[.int .i64 0, .int .i64 0] 28)))
  have hb := Blk2.mk' HBK.out
  obtain ⟨c0, c1, f0, f1⟩ := hb
  have hlt : w.heap.size < w1.heap.size := by have := hx1.size; simp at this; omega
  clear hx1
  simp only [fAgg]
  go_wp2
  go_region
  go_wp2
  refine bodyPost_ret (results_tc Tryd.results23 _ _ w.heap.size 28 #[.int .i64 c, .int .i64 i] (0, 0) _ rfl (fblk_fin HBK.out _) Tryd.underlying28 rfl sizeF) rfl (wret rfl (Ext.drew (Ext.alloc (ext_set2 HX.out (Nat.le_refl _) _ _) _)))
theorem deck_snoc {l : List Int} {k : Nat} {x : Int} (h : l[k]? = some x) : Acc.deckGo 0 (l.take (k + 1)) = Acc.deckGo 0 (l.take k) ++ (if x = 0 then [] else Acc.cardF k x) := by
  have hk := (List.getElem?_eq_some_iff.1 h).1
  rw [List.take_add_one, h, Option.toList_some, Acc.deckGo_append, List.length_take, Nat.min_eq_left (by omega), Nat.zero_add, Acc.deckGo, Acc.deckGo, List.append_nil]
theorem deck_len {l : List Int} {k : Nat} (hk : k ≤ 100) (hl : l.length ≤ 100) (h : ∀ x ∈ l, five x = true) : (strOfNums (Acc.deckGo 0 (l.take k))).size ≤ 10 * k := by
  rw [strOfNums_size]
  have := Acc.deckGo_len (l.take k) 0 (by rw [List.length_take]; omega) (fun v hv => h v (List.mem_of_mem_take hv))
  rw [List.length_take] at this
  omega
theorem write_good (A : Option Addr) (l : List Int) (c' : Nat) (w : World) (hl : l.length ≤ maxLen) (h1 : Sl w .i64 A l) (hf : faultW l = (0, 0)) (ht : Tabs w) (h8 : 2 ≤ w.heap.size) : Calls Tryd.prog 23 #[.slice A l.length c'] w (WRet w (writeD l)) := by
  have he : writeD l = (Acc.deckText l, (0, 0)) := by unfold writeD; rw [if_pos hf]
  rw [he]
  have HC := Lib.hid (fun (W : World) (hx : Ext w W) => hf ▸ checkWords_c A l c' W hl (h1.ext hx))
  have hl100 : l.length ≤ 100 ∧ ∀ x ∈ l, five x = true := by
    unfold faultW at hf
    split at hf
    · cases hf
    · split at hf
      · cases hf
      · exact ⟨by omega, badI_fine (by omega)⟩
  have HW5 := Lib.hid hl100.2
  have hln := hl100.1
  have HH1 := Lib.hid h1
  have HT := Lib.hid ht
  clear hf he h1 hl100 ht
  obtain ⟨n, hn⟩ : ∃ n, l.length = n := ⟨_, rfl⟩
  have HN := Lib.hid hn
  rw [hn] at hln HC ⊢
  clear hn hl
  go_enter Tryd.func23, Tryd.ntmps23
  go_wp2_with fail
  refine (HC.out _ ((Ext.refl w).alloc _)).mono ?_
  rintro e w1 ⟨rfl, hx1⟩
  have HX := Lib.hid (((Ext.refl w).alloc (.cells #[.int .i64 0, .int .i64 0] 28)).trans hx1)
  have HBK := Lib.hid (ext_heap hx1 (heap_alloc_new w (.cells #[.int .i64 0, .int .i64 0] 28)))
  have hlt : w.heap.size < w1.heap.size := by have := hx1.size; simp at this; omega
  clear hx1
  simp only [fAgg]
  go_wp2
  go_loopw [5, 16] (fun t5 t16 wx => ∃ k : Nat, ∃ b, k ≤ n ∧ t16 = .int .i64 k ∧ t5 = .string b ∧ Hid (b = strOfNums (Acc.deckGo 0 (l.take k))) ∧ b.size ≤ 1000 ∧ Ext w1 wx) (fun _ t16 _ => n - (intOf t16).toNat)
  case atStart => exact ⟨0, _, Nat.zero_le _, rfl, rfl, Lib.hid rfl, by decide, (Ext.refl w1).alloc _⟩
  case round =>
    obtain ⟨k, b, hk, rfl, rfl, hb, hbs, hx⟩ := hrel
    have HXR := Lib.hid hx
    have hltr : w.heap.size < wr.heap.size := by have := hx.size; omega
    have HHB := Lib.hid hb.out
    have HBS := Lib.hid hbs
    clear hx hb
    by_cases hlt2 : k < n
    · obtain ⟨bb, o, x, rfl, hx, ha⟩ := (HH1.out.ext (HX.out.trans HXR.out)).at2 (i := k) (by rw [HN.out]; exact hlt2)
      have HSN := Lib.hid (deck_snoc hx.out)
      have HDL := Lib.hid (deck_len (l := l) (k := k + 1) (by omega) (by rw [HN.out]; exact hln) HW5.out)
      have hx5 := HW5.out x (List.mem_of_getElem? hx.out)
      by_cases hx0 : x = 0
      · subst hx0
        go_wp2
        go_roundw
        case rel =>
          refine ⟨k + 1, _, by omega, by go_num, rfl, Lib.hid ?_, HBS.out, HXR.out⟩
          rw [HHB.out, HSN.out, if_pos rfl, List.append_nil]
        case measure => simp [intOf]; omega
      · have hq : (x != 0) = true := by simpa using hx0
        have HCA := Lib.hid (card_c k x wr (by omega) hx5 (HT.out.below (HX.out.trans HXR.out) h8) (by omega))
        have HX0 := Lib.hid hx0
        clear hx0 hx5
        go_wp2_with fail
        refine HCA.out.mono ?_
        rintro e w2 ⟨rfl, hx2⟩
        have HX2 := Lib.hid (HXR.out.trans hx2)
        clear hx2
        have HEQ : Hid (b ++ strOfNums (Acc.cardF k x) = strOfNums (Acc.deckGo 0 (l.take (k + 1)))) := Lib.hid (by rw [HHB.out, HSN.out, if_neg HX0.out, strOfNums_append])
        have hcs : (strOfNums (Acc.cardF k x)).size ≤ 10 := by rw [strOfNums_size]; exact Nat.le_of_eq (Acc.card_len (by omega) (by have := Acc.five_iff.1 (HW5.out x (List.mem_of_getElem? hx.out)); omega))
        generalize strOfNums (Acc.cardF k x) = C at *
        go_wp2_with fail
        go_roundw
        case rel =>
          refine ⟨k + 1, _, by omega, by go_num, rfl, Lib.hid HEQ.out, ?_, HX2.out⟩
          rw [HEQ.out]
          have := HDL.out
          omega
        case measure => simp [intOf]; omega
    · have hke : k = n := by omega
      have HFT : Hid (b = strOfNums (Acc.deckText l)) := Lib.hid (by rw [HHB.out, hke, ← HN.out, List.take_length]; rfl)
      have HBR := Lib.hid (ext_heap HXR.out HBK.out)
      have hb := Blk2.mk' HBR.out
      obtain ⟨c0, c1, f0, f1⟩ := hb
      clear hke
      go_wp2
      refine bodyPost_ret (results_tc Tryd.results23 _ _ w.heap.size 28 #[.int .i64 0, .int .i64 0] (0, 0) _ rfl (fblk_set HBR.out) Tryd.underlying28 rfl sizeF) rfl (wret HFT.out (ext_set2 (HX.out.trans HXR.out) (Nat.le_refl _) _ _))
theorem write_all (A : Option Addr) (l : List Int) (c' : Nat) (w : World) (hl : l.length ≤ maxLen) (h1 : Sl w .i64 A l) (ht : Tabs w) (h8 : 2 ≤ w.heap.size) : Calls Tryd.prog 23 #[.slice A l.length c'] w (WRet w (writeD l)) := by
  by_cases hf : faultW l = (0, 0)
  · exact write_good A l c' w hl h1 hf ht h8
  · exact write_bad A l c' w hl h1 hf
end Go.Proofs.YtbaahbpianingaaDoor
namespace Go.Proofs.YtbaahbpianingaaDoor
open Go Go.Proofs Go.RowKit
open Acc (Dk red five)
set_option maxHeartbeats 4000000
set_option maxRecDepth 100000
/-- What number returns. -/
def numR (l : List Int) : Value := .tuple #[.int .i64 (if l.all Acc.digB = true then (Acc.numF l : Int) else 0), .bool (l.all Acc.digB)]
def NRet (w : World) (l : List Int) (e : Ending) (w' : World) : Prop := e = .returned (numR l) ∧ Ext w w'
theorem nums_getD {l : List Int} (h : Byt l) {j : Nat} {x : Int} (hx : l[j]? = some x) : (((strOfNums l).data.toList.getD j 0).toNat : Int) = x := by
  have h1 := h x (List.mem_of_getElem? hx)
  rw [strOfNums_data, List.getD_eq_getElem?_getD, List.getElem?_map, hx]
  show ((UInt8.ofNat x.toNat).toNat : Int) = x
  rw [UInt8.toNat_ofNat']
  omega
theorem num_take {l : List Int} {k : Nat} {x : Int} (h : l[k]? = some x) : Acc.numF (l.take (k + 1)) = 10 * Acc.numF (l.take k) + (x - 48).toNat := by
  rw [List.take_add_one, h, Option.toList_some, Acc.numF_snoc]
theorem all_take {l : List Int} {k : Nat} {x : Int} (h : l[k]? = some x) (ha : (l.take k).all Acc.digB = true) : (l.take (k + 1)).all Acc.digB = Acc.digB x := by
  rw [List.take_add_one, h, Option.toList_some, List.all_append, ha]; simp
theorem all_false {l : List Int} {k : Nat} {x : Int} (h : l[k]? = some x) (hd : Acc.digB x = false) : l.all Acc.digB = false := by
  rw [List.all_eq_false]
  exact ⟨x, List.mem_of_getElem? h, by simpa using hd⟩
theorem number_c (l : List Int) (w : World) (hb : Byt l) (hl : l.length ≤ 10) : Calls Tryd.prog 76 #[.string (strOfNums l)] w (NRet w l) := by
  have hcv0 := Lib.run_convert_string_bytes (P := Tryd.prog) w 9 23 5 (strOfNums l) Tryd.underlying9 Tryd.underlying23 Tryd.underlying5
  have hx0 : Ext w (Lib.bytesWorld w 5 (strOfNums l)) := Lib.bytesWorld_below w 5 (strOfNums l)
  have hc0 : ∀ j x, l[j]? = some x → (Lib.bytesWorld w 5 (strOfNums l)).cell? ⟨w.heap.size, j, none⟩ = some (.int .u8 x) := fun j x hx => by
    have hj := (List.getElem?_eq_some_iff.1 hx).1
    rw [Lib.bytesWorld_cell _ _ _ _ (by rw [strOfNums_size]; exact hj), nums_getD hb hx]
  rw [strOfNums_size] at hcv0
  obtain ⟨wb, hwb⟩ : ∃ wb, wb = Lib.bytesWorld w 5 (strOfNums l) := ⟨_, rfl⟩
  obtain ⟨C, hC⟩ : ∃ C, C = grownCap w l.length 0 5 := ⟨_, rfl⟩
  rw [← hwb, ← hC] at hcv0
  rw [← hwb] at hx0 hc0
  have HX := Lib.hid hx0
  have HC0 := Lib.hid hc0
  have HB := Lib.hid hb
  have hlt : w.heap.size ≤ wb.heap.size := hx0.size
  clear hwb hC hx0 hc0 hb
  obtain ⟨n, hn⟩ : ∃ n, l.length = n := ⟨_, rfl⟩
  have HN := Lib.hid hn
  rw [hn] at hl hcv0
  clear hn
  have HCV := Lib.hid hcv0
  generalize strOfNums l = S at *
  go_enter Tryd.func76, Tryd.ntmps76
  go_wp2
  go_loop [4, 10] (fun t4 t10 => ∃ k : Nat, ∃ m : Nat, k ≤ n ∧ t10 = .int .i64 k ∧ t4 = .int .i64 (m : Int) ∧ Hid (m = Acc.numF (l.take k)) ∧ m < 10 ^ 10 ∧ Hid ((l.take k).all Acc.digB = true)) (fun _ t10 => n - (intOf t10).toNat)
  case atStart => exact ⟨0, 0, Nat.zero_le _, rfl, rfl, Lib.hid rfl, by decide, Lib.hid rfl⟩
  case round =>
    obtain ⟨k, m, hk, rfl, rfl, hm, hml, ha⟩ := hrel
    clear HCV hcv0
    by_cases hlt2 : k < n
    · obtain ⟨x, hx⟩ : ∃ x, l[k]? = some x := ⟨_, List.getElem?_eq_getElem (by rw [HN.out]; exact hlt2)⟩
      have hc := HC0.out k x hx
      have hb8 := HB.out x (List.mem_of_getElem? hx)
      have HXK := Lib.hid hx
      clear hx
      cases hd : Acc.digB x with
      | true =>
        have hd2 := Acc.dig_iff.1 hd
        have HNT := Lib.hid (num_take HXK.out)
        have HAT := Lib.hid (all_take HXK.out ha.out)
        have HLT := Lib.hid (Acc.num_lt (l.take (k + 1)) (by rw [all_take HXK.out ha.out]; exact hd))
        have t1 : decide (x < 48) = false := by simp; omega
        have t2 : decide (57 < x) = false := by simp; omega
        clear hd
        go_wp2
        go_round
        case rel =>
          have hm3 : 10 * m + (x - 48).toNat = Acc.numF (l.take (k + 1)) := by rw [HNT.out, hm.out]
          have hp : 10 ^ (l.take (k + 1)).length ≤ 10 ^ 10 := Nat.pow_le_pow_right (by omega) (by rw [List.length_take]; omega)
          have hq := HLT.out
          refine ⟨k + 1, 10 * m + (x - 48).toNat, by omega, by go_num, ?_, Lib.hid hm3, by omega, Lib.hid (by rw [HAT.out]; exact Acc.dig_iff.2 hd2)⟩
          congr 1
          omega
        case measure => simp [intOf]; omega
      | false =>
        have hd2 : x < 48 ∨ 57 < x := by
          have : ¬ (48 ≤ x ∧ x ≤ 57) := fun q => by rw [Acc.dig_iff.2 q] at hd; cases hd
          omega
        have HAF := Lib.hid (all_false HXK.out hd)
        have HR : Hid (numR l = .tuple #[.int .i64 0, .bool false]) := Lib.hid (by unfold numR; rw [HAF.out, if_neg (by decide)])
        clear hd
        by_cases h1 : x < 48
        · have t1 : decide (x < 48) = true := by simpa using h1
          go_wp2
          go_ret2
          exact ⟨congrArg Ending.returned HR.out.symm, HX.out⟩
        · have t1 : decide (x < 48) = false := by simpa using h1
          have t2 : decide (57 < x) = true := by simp; omega
          go_wp2
          go_ret2
          exact ⟨congrArg Ending.returned HR.out.symm, HX.out⟩
    · have hkn : k = n := by omega
      have HR : Hid (numR l = .tuple #[.int .i64 (m : Int), .bool true]) := Lib.hid (by
        have ha2 := ha.out
        have hm2 := hm.out
        rw [hkn, ← HN.out, List.take_length] at ha2 hm2
        unfold numR
        rw [ha2, if_pos rfl, hm2])
      clear hkn
      go_wp2
      go_ret2
      exact ⟨congrArg Ending.returned HR.out.symm, HX.out⟩
end Go.Proofs.YtbaahbpianingaaDoor
namespace Go.Proofs.YtbaahbpianingaaDoor
open Go Go.Proofs Go.RowKit
open Acc (Dk red five)
set_option maxHeartbeats 4000000
set_option maxRecDepth 100000
/-- What readCard returns. -/
def RC (w : World) (c : List Int) (e : Ending) (w' : World) : Prop :=
  Ext w w' ∧ ((∃ (a : Nat) (v : Int), Acc.readCard c = some (a, v) ∧ e = .returned (.tuple #[.int .i64 (a : Int), .int .i64 v, .bool true])) ∨ (Acc.readCard c = none ∧ ∃ a v : Int, e = .returned (.tuple #[.int .i64 a, .int .i64 v, .bool false])))
theorem rc_none {w w' : World} {c : List Int} {a v : Int} (h : Acc.readCard c = none) (hx : Ext w w') : RC w c (.returned (.tuple #[.int .i64 a, .int .i64 v, .bool false])) w' := ⟨hx, .inr ⟨h, a, v, rfl⟩⟩
theorem rc_some {w w' : World} {c : List Int} {A : Nat} {a v V : Int} (h : Acc.readCard c = some (A, V)) (h1 : a = (A : Int)) (h2 : v = V) (hx : Ext w w') : RC w c (.returned (.tuple #[.int .i64 a, .int .i64 v, .bool true])) w' := ⟨hx, .inl ⟨A, V, h, by rw [h1, h2]⟩⟩
theorem nums_idx {l : List Int} (hb : Byt l) {j : Nat} {x : Int} (hx : l[j]? = some x) (h : j < (strOfNums l).size) : (((strOfNums l)[j]'h).toNat : Int) = x := by
  have h1 := nums_getD hb hx
  have hj : j < (strOfNums l).data.toList.length := by rw [Array.length_toList]; exact h
  rw [List.getD_eq_getElem?_getD, List.getElem?_eq_getElem hj] at h1
  exact h1
theorem extract_nums (l : List Int) (a b : Nat) : (strOfNums l).extract a b = strOfNums ((l.drop a).take (b - a)) := by
  apply ByteArray.ext
  apply Array.toList_inj.1
  rw [ByteArray.data_extract, Array.toList_extract, strOfNums_data, strOfNums_data]
  simp [List.extract_eq_take_drop, List.map_take, List.map_drop]
theorem readCard_len {c : List Int} (h : c.length ≠ 10) : Acc.readCard c = none := by
  unfold Acc.readCard
  rw [if_neg (fun q => h q.1)]
theorem readCard_len_c (c : List Int) (w : World) (h : c.length ≠ 10) (hl : c.length ≤ 10) : Calls Tryd.prog 48 #[.string (strOfNums c)] w (RC w c) := by
  have HR := Lib.hid (readCard_len h)
  have hs := strOfNums_size c
  have hs2 : (strOfNums c).size ≤ 9 := by omega
  have hn : (((strOfNums c).size : Int) != 10) = true := by simp; omega
  clear hs
  generalize strOfNums c = S at *
  go_enter Tryd.func48, Tryd.ntmps48
  go_wp2
  go_ret3
  exact rc_none HR.out (Ext.refl _)
theorem num_form (l : List Int) : ∃ (a : Int) (d : Bool), numR l = .tuple #[.int .i64 a, .bool d] ∧ d = l.all Acc.digB ∧ (d = true → a = Acc.numF l) ∧ (d = false → a = 0) :=
  ⟨_, _, rfl, rfl, fun h => by rw [if_pos h], fun h => by rw [if_neg (by rw [h]; decide)]⟩
/-- The numbers of a card, and its signs. -/
structure CardBy (c : List Int) (x2 x3 x9 : Int) : Prop where
  len : c.length = 10
  h2 : c[2]? = some x2
  h3 : c[3]? = some x3
  h9 : c[9]? = some x9
theorem card_by {c : List Int} (h : c.length = 10) : ∃ x2 x3 x9, CardBy c x2 x3 x9 :=
  ⟨c[2], c[3], c[9], h, List.getElem?_eq_getElem (by omega), List.getElem?_eq_getElem (by omega), List.getElem?_eq_getElem (by omega)⟩
theorem readCard_by {c : List Int} {x2 x3 x9 : Int} (k : CardBy c x2 x3 x9) : Acc.readCard c =
    if (c.take 2).all Acc.digB = true ∧ x2 = 32 ∧ (x3 = 43 ∨ x3 = 45) ∧ ((c.drop 4).take 5).all Acc.digB = true ∧ x9 = 10 then
      some (Acc.numF (c.take 2), if x3 = 45 then -(Acc.numF ((c.drop 4).take 5) : Int) else (Acc.numF ((c.drop 4).take 5) : Int)) else none := by
  unfold Acc.readCard
  rw [k.h2, k.h3, k.h9]
  simp only [Option.some.injEq, k.len, true_and]
theorem readCard_form_c (c : List Int) (w : World) (hb : Byt c) {x2 x3 x9 : Int} (k : CardBy c x2 x3 x9) (h : ¬ (x2 = 32 ∧ (x3 = 43 ∨ x3 = 45) ∧ x9 = 10)) : Calls Tryd.prog 48 #[.string (strOfNums c)] w (RC w c) := by
  have HR : Hid (Acc.readCard c = none) := Lib.hid (by rw [readCard_by k, if_neg (fun q => h ⟨q.2.1, q.2.2.1, q.2.2.2.2⟩)])
  obtain ⟨S, hS⟩ : ∃ S, S = strOfNums c := ⟨_, rfl⟩
  have hsz : S.size = 10 := by rw [hS, strOfNums_size]; exact k.len
  have e2 : ((S[2]'(by omega)).toNat : Int) = x2 := by subst hS; exact nums_idx hb k.h2 _
  have e3 : ((S[3]'(by omega)).toNat : Int) = x3 := by subst hS; exact nums_idx hb k.h3 _
  have e9 : ((S[9]'(by omega)).toNat : Int) = x9 := by subst hS; exact nums_idx hb k.h9 _
  clear k hb
  rw [← hS]
  clear hS
  by_cases q2 : x2 = 32
  · by_cases q3 : x3 = 43 ∨ x3 = 45
    · have q9 : (x9 != 10) = true := by simp; intro q; exact h ⟨q2, q3, q⟩
      clear h
      rcases q3 with q3 | q3
      all_goals
        subst q2 q3
        go_enter Tryd.func48, Tryd.ntmps48
        go_wp2
        go_ret3
        exact rc_none HR.out (Ext.refl _)
    · have a3 : (x3 != 43) = true := by simp; omega
      have b3 : (x3 != 45) = true := by simp; omega
      clear h q3
      subst q2
      go_enter Tryd.func48, Tryd.ntmps48
      go_wp2
      go_ret3
      exact rc_none HR.out (Ext.refl _)
  · have a2 : (x2 != 32) = true := by simpa using q2
    clear h q2
    go_enter Tryd.func48, Tryd.ntmps48
    go_wp2
    go_ret3
    exact rc_none HR.out (Ext.refl _)
theorem readCard_good_c (c : List Int) (w : World) (hb : Byt c) {x3 : Int} (k : CardBy c 32 x3 10) (h3 : x3 = 43 ∨ x3 = 45) : Calls Tryd.prog 48 #[.string (strOfNums c)] w (RC w c) := by
  obtain ⟨S, hS⟩ : ∃ S, S = strOfNums c := ⟨_, rfl⟩
  have hsz : S.size = 10 := by rw [hS, strOfNums_size]; exact k.len
  have e2 : ((S[2]'(by omega)).toNat : Int) = 32 := by subst hS; exact nums_idx hb k.h2 _
  have e3 : ((S[3]'(by omega)).toNat : Int) = x3 := by subst hS; exact nums_idx hb k.h3 _
  have e9 : ((S[9]'(by omega)).toNat : Int) = 10 := by subst hS; exact nums_idx hb k.h9 _
  have HKB := Lib.hid (readCard_by k)
  have X2 : (strOfNums c).extract 0 2 = strOfNums (c.take 2) := by have := extract_nums c 0 2; simpa using this
  have X5 : (strOfNums c).extract 4 9 = strOfNums ((c.drop 4).take 5) := extract_nums c 4 9
  have HN2 := Lib.hid (fun W => number_c (c.take 2) W (fun x hx => hb x (List.mem_of_mem_take hx)) (by rw [List.length_take]; omega))
  have HN5 := Lib.hid (fun W => number_c ((c.drop 4).take 5) W (fun x hx => hb x (List.mem_of_mem_drop (List.mem_of_mem_take hx))) (by rw [List.length_take]; omega))
  obtain ⟨a2, d2, n2, p2, r2, z2⟩ := num_form (c.take 2)
  obtain ⟨a5, d5, n5, p5, r5, z5⟩ := num_form ((c.drop 4).take 5)
  have hlt5 := fun q => Acc.num_lt ((c.drop 4).take 5) q
  unfold NRet at HN2 HN5
  rw [n2] at HN2
  rw [n5] at HN5
  rw [← p2, ← p5] at HKB
  have ha5 : -100000 < a5 ∧ a5 < 100000 := by
    cases hd : d5 with
    | true =>
      have h1 := hlt5 (by rw [← p5]; exact hd)
      have h2 : 10 ^ ((c.drop 4).take 5).length ≤ 10 ^ 5 := Nat.pow_le_pow_right (by omega) (by rw [List.length_take]; omega)
      rw [r5 hd]; omega
    | false => rw [z5 hd]; omega
  have HR2 := Lib.hid r2
  have HR5 := Lib.hid r5
  clear r2 r5 z2 z5 p2 p5 n2 n5 hlt5 k hb
  rw [← hS] at X2 X5 ⊢
  have HX2 := Lib.hid X2
  have HX5 := Lib.hid X5
  clear X2 X5 hS
  cases d2 <;> cases d5 <;> rcases h3 with rfl | rfl
  all_goals
    go_enter Tryd.func48, Tryd.ntmps48
    go_wp2_with fail
    rw [HX2.out]
    refine (HN2.out _).mono ?_
    rintro e w1 ⟨rfl, hx1⟩
    have HE1 := Lib.hid hx1
    clear hx1
    go_wp2_with fail
    rw [HX5.out]
    refine (HN5.out _).mono ?_
    rintro e w2 ⟨rfl, hx2⟩
    have HE2 := Lib.hid (HE1.out.trans hx2)
    clear hx2
    go_wp2_with fail
    go_ret3
  all_goals first
    | exact rc_none (by rw [HKB.out]; simp) HE2.out
    | exact rc_some (by rw [HKB.out, if_pos (by simp)]) (HR2.out (by trivial)) (by first | (rw [if_neg (by decide)]; exact HR5.out (by trivial)) | (rw [if_pos (by trivial), ← HR5.out (by trivial)])) HE2.out
theorem readCard_c (c : List Int) (w : World) (hb : Byt c) (hl : c.length ≤ 10) : Calls Tryd.prog 48 #[.string (strOfNums c)] w (RC w c) := by
  by_cases h : c.length = 10
  · obtain ⟨x2, x3, x9, k⟩ := card_by h
    by_cases q : x2 = 32 ∧ (x3 = 43 ∨ x3 = 45) ∧ x9 = 10
    · obtain ⟨rfl, q3, rfl⟩ := q
      exact readCard_good_c c w hb k q3
    · exact readCard_form_c c w hb k q
  · exact readCard_len_c c w h hl
end Go.Proofs.YtbaahbpianingaaDoor
