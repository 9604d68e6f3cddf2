import Derived.Test.YtbaahbpianingaaDoorDeck4
namespace Go.Proofs.YtbaahbpianingaaDoor
open Go Go.Proofs Go.RowKit
open Acc (Dk red five)
set_option maxHeartbeats 4000000
set_option maxRecDepth 100000
/-- What ReadDeck returns. -/
def DRet (w : World) (r : List Int × (Int × Int)) (e : Ending) (w' : World) : Prop :=
  ∃ A c, e = .returned (.tuple #[.slice A r.1.length c, fAgg r.2]) ∧ Sl w' .i64 A r.1 ∧ (A = none → c = 0) ∧ r.1.length ≤ c ∧ c ≤ maxLen ∧ Ext w w'
theorem dret_nil {w w' : World} {p : Int × Int} (hx : Ext w w') : DRet w ([], p) (.returned (.tuple #[.slice none 0 0, fAgg p])) w' :=
  ⟨none, 0, rfl, SlC.nil _ _, fun _ => rfl, Nat.le_refl _, by simp [maxLen], hx⟩
theorem dret_nil2 {w w' : World} {p : Int × Int} {R : List Int × (Int × Int)} (h : ([], p) = R) (hx : Ext w w') : DRet w R (.returned (.tuple #[.slice none 0 0, fAgg p])) w' := h ▸ dret_nil hx
def rowOf (l : List Int) : Array Value := (l.map (Value.int .i64)).toArray
theorem run_make100 (w : World) : (Instr.makeSlice 26 (.int .i64 100) (.int .i64 100)).run Tryd.prog w = .ok (.slice (some ⟨w.heap.size, 0, none⟩) 100 100) (w.alloc (.cells (rowOf Acc.zeros) 3)) := by kernel_rfl
theorem read_long (t : List Int) (w : World) (hl : t.length ≤ maxLen) (h : 1000 < t.length) : Calls Tryd.prog 24 #[.string (strOfNums t)] w (DRet w (Acc.readDeck t)) := by
  have he : Acc.readDeck t = ([], (3, -1)) := by unfold Acc.readDeck; rw [if_pos h]
  rw [he]
  have hs : 1000 < (strOfNums t).size := by rw [strOfNums_size]; exact h
  have hs2 : (strOfNums t).size ≤ maxLen := by rw [strOfNums_size]; exact hl
  unfold maxLen at hs2
  clear he h hl
  generalize strOfNums t = S at *
  go_enter Tryd.func24, Tryd.ntmps24
  go_wp2_with (go_at_call 40; refine (fault_c _ _ _).mono ?_; rintro e w' ⟨rfl, rfl⟩)
  refine bodyPost_ret (results_tc Tryd.results24 _ _ w.heap.size 28 #[.int .i64 3, .int .i64 (-1)] (0, 0) _ rfl (heap_alloc2_old w _ _) Tryd.underlying28 rfl sizeF) rfl (dret_nil (((Ext.refl w).alloc _).alloc _))
/-- What holds ahead of card i. -/
structure RdIs (w wx : World) (S : ByteArray) (t : List Int) (R : List Int × (Int × Int)) (n i : Nat) (last : Int) (out : List Int) : Prop where
  go : Acc.readGo i last out (t.drop (10 * i)) = R
  len : out.length = 100
  row : wx.heap[w.heap.size + 1]? = some (.cells (rowOf out) 3 (0, 0))
  flt : wx.heap[w.heap.size]? = some (.cells #[.int .i64 0, .int .i64 0] 28 (0, 0))
  x : Ext w wx
theorem rdIs0 {w : World} {S : ByteArray} {t : List Int} {R : List Int × (Int × Int)} {n : Nat} (h : Acc.readGo 0 (-1) Acc.zeros (t.drop 0) = R) : RdIs w ((w.alloc (.cells #[.int .i64 0, .int .i64 0] 28)).alloc (.cells (rowOf Acc.zeros) 3)) S t R n 0 (-1) Acc.zeros :=
  ⟨h, by simp [Acc.zeros], heap_alloc2_new w _ _, heap_alloc2_old w _ _, ((Ext.refl w).alloc _).alloc _⟩
theorem readGo_step {i : Nat} {last : Int} {out t : List Int} (h : t ≠ []) : Acc.readGo i last out t = match Acc.readCard (t.take 10) with
    | none => ([], (1, (i : Int)))
    | some (a, v) => if v = 0 then ([], (6, (i : Int))) else if (a : Int) ≤ last then ([], (11, (i : Int))) else Acc.readGo (i + 1) a (out.set a v) (t.drop 10) := by
  cases t with
  | nil => exact absurd rfl h
  | cons x r => rw [Acc.readGo.eq_def]; rfl
theorem chunk_eq {t : List Int} {S : ByteArray} {n : Nat} (i : Nat) (hS : S = strOfNums t) (hn : n = t.length) : S.extract (i * 10) (min (((i : Int) + 1) * 10) (n : Int)).toNat = strOfNums ((t.drop (10 * i)).take 10) := by
  subst hS hn
  rw [extract_nums, Nat.mul_comm i 10]
  congr 1
  by_cases h : 10 * i + 10 ≤ t.length
  · rw [show (min (((i : Int) + 1) * 10) (t.length : Int)).toNat - 10 * i = 10 by omega]
  · rw [List.take_of_length_le (by rw [List.length_drop]; omega), List.take_of_length_le (by rw [List.length_drop]; omega)]
theorem row_at {out : List Int} (h : out.length = 100) {a : Nat} (ha : a < 100) : ∃ y, (rowOf out)[a]? = some (.int .i64 y) := by
  refine ⟨out[a], ?_⟩
  unfold rowOf
  rw [List.getElem?_toArray, List.getElem?_map, List.getElem?_eq_getElem (by omega)]
  rfl
theorem row_set {out : List Int} {a : Nat} {v : Int} : (rowOf out).setIfInBounds a (.int .i64 v) = rowOf (out.set a v) := by
  unfold rowOf
  rw [List.setIfInBounds_toArray, List.map_set]
theorem heap_set_any {w : World} {bm : Nat} {cs : Array Value} {t : TypeId} (h : w.heap[bm]? = some (.cells cs t (0, 0))) (i : Nat) (u : Value) : (w.setCell ⟨bm, i, none⟩ u).heap[bm]? = some (.cells (cs.setIfInBounds i u) t (0, 0)) := by
  simp [World.setCell, Array.getElem?_modify, h]
theorem rd_next {w w2 : World} {S : ByteArray} {t : List Int} {R : List Int × (Int × Int)} {n i a : Nat} {v : Int} {out : List Int} (hl : out.length = 100) (_ha : a < 100) (hr : w2.heap[w.heap.size + 1]? = some (.cells (rowOf out) 3 (0, 0)))
    (hf : w2.heap[w.heap.size]? = some (.cells #[.int .i64 0, .int .i64 0] 28 (0, 0))) (hx : Ext w w2) (hg : Acc.readGo (i + 1) a (out.set a v) (t.drop (10 * (i + 1))) = R) : RdIs w (w2.setCell ⟨w.heap.size + 1, a, none⟩ (.int .i64 v)) S t R n (i + 1) a (out.set a v) :=
  ⟨hg, by simpa using hl, by rw [← row_set]; exact heap_set_any hr a _, by rw [Below.heap_setCell _ _ _ _ (by show w.heap.size ≠ w.heap.size + 1; omega)]; exact hf, Ext.setCell (p := ⟨w.heap.size + 1, a, none⟩) hx (by show w.heap.size ≤ w.heap.size + 1; omega) _⟩
theorem dret_row {w wx : World} {out : List Int} {p : Int × Int} (hl : out.length = 100) (hr : wx.heap[w.heap.size + 1]? = some (.cells (rowOf out) 3 (0, 0))) {u v : Value} (hx : Ext w ((wx.setCell ⟨w.heap.size, 0, none⟩ u).setCell ⟨w.heap.size, 1, none⟩ v)) :
    DRet w (out, p) (.returned (.tuple #[.slice (some ⟨w.heap.size + 1, 0, none⟩) 100 100, fAgg p])) ((wx.setCell ⟨w.heap.size, 0, none⟩ u).setCell ⟨w.heap.size, 1, none⟩ v) := by
  have hr2 : ((wx.setCell ⟨w.heap.size, 0, none⟩ u).setCell ⟨w.heap.size, 1, none⟩ v).heap[w.heap.size + 1]? = some (.cells (rowOf out) 3 (0, 0)) := by
    rw [Below.heap_setCell _ _ _ _ (by show w.heap.size + 1 ≠ w.heap.size; omega), Below.heap_setCell _ _ _ _ (by show w.heap.size + 1 ≠ w.heap.size; omega)]
    exact hr
  refine ⟨some ⟨w.heap.size + 1, 0, none⟩, 100, by rw [hl], sl_of_cells hr2 fun i x hx => ?_, (fun h => by cases h), by rw [hl]; exact Nat.le_refl _, by decide, hx⟩
  unfold rowOf
  rw [List.getElem?_toArray, List.getElem?_map, hx]
  rfl
theorem dret_row2 {w wx : World} {out : List Int} {p : Int × Int} {R : List Int × (Int × Int)} (h : (out, p) = R) (hl : out.length = 100) (hr : wx.heap[w.heap.size + 1]? = some (.cells (rowOf out) 3 (0, 0))) {u v : Value} (hx : Ext w ((wx.setCell ⟨w.heap.size, 0, none⟩ u).setCell ⟨w.heap.size, 1, none⟩ v)) :
    DRet w R (.returned (.tuple #[.slice (some ⟨w.heap.size + 1, 0, none⟩) 100 100, fAgg p])) ((wx.setCell ⟨w.heap.size, 0, none⟩ u).setCell ⟨w.heap.size, 1, none⟩ v) := h ▸ dret_row hl hr hx
theorem read_all (t : List Int) (w : World) (hb : Byt t) (h : t.length ≤ 1000) : Calls Tryd.prog 24 #[.string (strOfNums t)] w (DRet w (Acc.readDeck t)) := by
  have he : Acc.readDeck t = Acc.readGo 0 (-1) Acc.zeros t := by unfold Acc.readDeck; rw [if_neg (by omega)]
  rw [he]
  obtain ⟨R, hR⟩ : ∃ R, Acc.readGo 0 (-1) Acc.zeros t = R := ⟨_, rfl⟩
  rw [hR]
  have HR := Lib.hid hR
  obtain ⟨S, hS⟩ : ∃ S, S = strOfNums t := ⟨_, rfl⟩
  obtain ⟨n, hn⟩ : ∃ n, n = t.length := ⟨_, rfl⟩
  have hsz : S.size = n := by rw [hS, strOfNums_size, hn]
  have hn1 : n ≤ 1000 := by omega
  have HS := Lib.hid hS
  have HN := Lib.hid hn
  have HB := Lib.hid hb
  have HM := Lib.hid (fun W => run_make100 W)
  have hmk := run_make100 (w.alloc (.cells #[.int .i64 0, .int .i64 0] 28))
  rw [← hS]
  clear he hR hS hn hb h
  have HZ := Lib.hid hsz
  go_enter Tryd.func24, Tryd.ntmps24
  go_wp2
  go_loopw [5, 6] (fun t5 t6 wx => ∃ i : Nat, ∃ last : Int, ∃ out, t6 = .int .i64 i ∧ t5 = .int .i64 last ∧ i ≤ 101 ∧ -1 ≤ last ∧ last ≤ 99 ∧ RdIs w wx S t R n i last out) (fun _ t6 _ => 200 - (intOf t6).toNat)
  case atStart => exact ⟨0, -1, Acc.zeros, rfl, rfl, by omega, by omega, by omega, rdIs0 (by rw [List.drop_zero]; exact HR.out)⟩
  case round =>
    obtain ⟨i, last, out, rfl, rfl, hi, hl1, hl2, hrd⟩ := hrel
    have HRD := Lib.hid hrd
    clear hrd
    by_cases hlt : 10 * i < n
    · have HEX := Lib.hid (chunk_eq (t := t) (n := n) i HS.out HN.out)
      have HGO := Lib.hid (HRD.out.go)
      have HNE : Hid (t.drop (10 * i) ≠ []) := Lib.hid (fun q => by have := congrArg List.length q; rw [List.length_drop, ← HN.out] at this; simp at this; omega)
      go_wp2_with fail
      rw [HEX.out]
      refine (readCard_c _ wr (fun x hx => HB.out x (List.mem_of_mem_drop (List.mem_of_mem_take hx))) (by rw [List.length_take]; omega)).mono ?_
      rintro e w2 ⟨hx2, hcase⟩
      have HFL := Lib.hid (ext_heap hx2 HRD.out.flt)
      have HRO := Lib.hid (ext_heap hx2 HRD.out.row)
      have HX2 := Lib.hid (HRD.out.x.trans hx2)
      have hb2 := Blk2.mk' HFL.out
      obtain ⟨c0, c1, f0, f1⟩ := hb2
      have hlt2 : w.heap.size + 1 < w2.heap.size := (Array.getElem?_eq_some_iff.1 HRO.out).1
      have hlt3 : w.heap.size < w2.heap.size := by omega
      clear hx2
      rcases hcase with ⟨a, v, hrc, rfl⟩ | ⟨hrc, a, v, rfl⟩
      · have HRC := Lib.hid hrc
        clear hrc
        by_cases hv : v = 0
        · subst hv
          have HRE : Hid (([], ((6 : Int), (i : Int))) = R) := Lib.hid (by rw [← HGO.out, readGo_step HNE.out, HRC.out]; simp)
          go_wp2_with (go_at_call 40; refine (fault_c _ _ _).mono ?_; rintro e w' ⟨rfl, rfl⟩)
          refine bodyPost_ret (results_tc Tryd.results24 _ _ w.heap.size 28 #[.int .i64 6, .int .i64 (i : Int)] (0, 0) _ rfl (by first | exact fblk_fin (c := 6) (i := (i : Int)) HFL.out _ | exact fblk_set (c := 6) (i := (i : Int)) HFL.out) Tryd.underlying28 rfl sizeF) rfl (dret_nil2 HRE.out (by first | exact Ext.alloc (ext_set2 HX2.out (Nat.le_refl _) (.int .i64 6) (.int .i64 (i : Int))) _ | exact ext_set2 HX2.out (Nat.le_refl _) (.int .i64 6) (.int .i64 (i : Int))))
        · have q1 : (v == 0) = false := by simpa using hv
          obtain ⟨-, ha1, hv5⟩ := Acc.card_readCard HRC.out hv
          have HV := Lib.hid hv
          clear hv
          by_cases hle : (a : Int) ≤ last
          · have HRE : Hid (([], ((11 : Int), (i : Int))) = R) := Lib.hid (by rw [← HGO.out, readGo_step HNE.out, HRC.out]; simp only; rw [if_neg HV.out, if_pos hle])
            go_wp2_with (go_at_call 40; refine (fault_c _ _ _).mono ?_; rintro e w' ⟨rfl, rfl⟩)
            refine bodyPost_ret (results_tc Tryd.results24 _ _ w.heap.size 28 #[.int .i64 11, .int .i64 (i : Int)] (0, 0) _ rfl (by first | exact fblk_fin (c := 11) (i := (i : Int)) HFL.out _ | exact fblk_set (c := 11) (i := (i : Int)) HFL.out) Tryd.underlying28 rfl sizeF) rfl (dret_nil2 HRE.out (by first | exact Ext.alloc (ext_set2 HX2.out (Nat.le_refl _) (.int .i64 11) (.int .i64 (i : Int))) _ | exact ext_set2 HX2.out (Nat.le_refl _) (.int .i64 11) (.int .i64 (i : Int))))
          · have HRE : Hid (Acc.readGo (i + 1) a (out.set a v) (t.drop (10 * (i + 1))) = R) := Lib.hid (by rw [← HGO.out, readGo_step HNE.out, HRC.out]; simp only; rw [if_neg HV.out, if_neg hle, List.drop_drop]; rfl)
            have HN2 := Lib.hid (rd_next HRD.out.len ha1 HRO.out HFL.out HX2.out HRE.out (S := S) (n := n))
            obtain ⟨y, hy⟩ : ∃ y, w2.cell? ⟨w.heap.size + 1, a, none⟩ = some (.int .i64 y) := by rw [blk_cell HRO.out]; exact row_at HRD.out.len ha1
            have fy := blk_frozen HRO.out a
            have i0 : (0 : Int) ≤ (a : Int) := by omega
            have i1 : (a : Int) < 100 := by omega
            go_wp2_with fail
            go_roundw
            case rel => exact ⟨i + 1, a, out.set a v, by go_num, rfl, by omega, by omega, by omega, HN2.out⟩
            case measure => simp [intOf]; omega
      · have HRE : Hid (([], ((1 : Int), (i : Int))) = R) := Lib.hid (by rw [← HGO.out, readGo_step HNE.out, hrc])
        clear hrc
        go_wp2_with (go_at_call 40; refine (fault_c _ _ _).mono ?_; rintro e w' ⟨rfl, rfl⟩)
        refine bodyPost_ret (results_tc Tryd.results24 _ _ w.heap.size 28 #[.int .i64 1, .int .i64 (i : Int)] (0, 0) _ rfl (by first | exact fblk_fin (c := 1) (i := (i : Int)) HFL.out _ | exact fblk_set (c := 1) (i := (i : Int)) HFL.out) Tryd.underlying28 rfl sizeF) rfl (dret_nil2 HRE.out (by first | exact Ext.alloc (ext_set2 HX2.out (Nat.le_refl _) (.int .i64 1) (.int .i64 (i : Int))) _ | exact ext_set2 HX2.out (Nat.le_refl _) (.int .i64 1) (.int .i64 (i : Int))))
    · have HRE : Hid ((out, ((0 : Int), (0 : Int))) = R) := Lib.hid (by rw [← HRD.out.go, List.drop_eq_nil_of_le (by rw [← HN.out]; omega), Acc.readGo_nil])
      have HFL := Lib.hid HRD.out.flt
      have hb2 := Blk2.mk' HFL.out
      obtain ⟨c0, c1, f0, f1⟩ := hb2
      have hlt2 : w.heap.size + 1 < wr.heap.size := (Array.getElem?_eq_some_iff.1 HRD.out.row).1
      have hlt3 : w.heap.size < wr.heap.size := by omega
      go_wp2_with fail
      refine bodyPost_ret (results_tc Tryd.results24 _ _ w.heap.size 28 #[.int .i64 0, .int .i64 0] (0, 0) _ rfl (fblk_set HFL.out) Tryd.underlying28 rfl sizeF) rfl (dret_row2 HRE.out HRD.out.len HRD.out.row (ext_set2 HRD.out.x (Nat.le_refl _) _ _))
end Go.Proofs.YtbaahbpianingaaDoor
