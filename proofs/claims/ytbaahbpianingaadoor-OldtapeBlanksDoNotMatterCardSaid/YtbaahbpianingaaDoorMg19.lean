import Derived.Test.YtbaahbpianingaaDoorMg18
import Derived.Deep.DeepCutAuto
namespace Go.Proofs.YtbaahbpianingaaDoor
open Go Go.Proofs Go.RowKit
open Acc (Dk red five)
set_option maxHeartbeats 4000000
set_option maxRecDepth 100000
/-- What ReadDeck returns. -/
def DRet (w : World) (r : List Int × (Int × Int)) (e : Ending) (w' : World) : Prop :=
  ∃ A c, e = .returned (.tuple #[.slice A r.1.length c, fAgg r.2]) ∧ Sl w' .i64 A r.1 ∧ (A = none → c = 0) ∧ r.1.length ≤ c ∧ c ≤ maxLen ∧ Ext w w'
theorem dret_nil {w w' : World} {p : Int × Int} (hx : Ext w w') : DRet w ([], p) (.returned (.tuple #[.slice none 0 0, fAgg p])) w' :=
  ⟨none, 0, rfl, SlC.nil _ _, fun _ => rfl, Nat.le_refl _, by simp [maxLen], hx⟩
theorem dret_nil2 {w w' : World} {p : Int × Int} {R : List Int × (Int × Int)} (h : ([], p) = R) (hx : Ext w w') : DRet w R (.returned (.tuple #[.slice none 0 0, fAgg p])) w' := h ▸ dret_nil hx
def rowOf (l : List Int) : Array Value := (l.map (Value.int .i64)).toArray
theorem run_make100 (w : World) : (Instr.makeSlice 26 (.int .i64 100) (.int .i64 100)).run Tryd.prog w = .ok (.slice (some ⟨w.heap.size, 0, none⟩) 100 100) (w.alloc (.cells (rowOf Acc.zeros) 3)) := by kernel_rfl
theorem read_long (t : List Int) (w : World) (hl : t.length ≤ maxLen) (h : 1000 < t.length) : Calls Tryd.prog 24 #[.string (strOfNums t)] w (DRet w (Acc.readDeck t)) := by
  have he : Acc.readDeck t = ([], (3, -1)) := by unfold Acc.readDeck; rw [if_pos h]
  rw [he]
  have hs : 1000 < (strOfNums t).size := by rw [strOfNums_size]; exact h
  have hs2 : (strOfNums t).size ≤ maxLen := by rw [strOfNums_size]; exact hl
  unfold maxLen at hs2
  clear he h hl
  generalize strOfNums t = S at *
  go_enter Tryd.func24, Tryd.ntmps24
  go_wp2_with (go_at_call 40; refine (fault_c _ _ _).mono ?_; rintro e w' ⟨rfl, rfl⟩)
  refine bodyPost_ret (results_tc Tryd.results24 _ _ w.heap.size 28 #[.int .i64 3, .int .i64 (-1)] (0, 0) _ rfl (heap_alloc2_old w _ _) Tryd.underlying28 rfl sizeF) rfl (dret_nil (((Ext.refl w).alloc _).alloc _))
/-- What holds ahead of card i. -/
structure RdIs (w wx : World) (S : ByteArray) (t : List Int) (R : List Int × (Int × Int)) (n i : Nat) (last : Int) (out : List Int) : Prop where
  go : Acc.readGo i last out (t.drop (10 * i)) = R
  len : out.length = 100
  row : wx.heap[w.heap.size + 1]? = some (.cells (rowOf out) 3 (0, 0))
  flt : wx.heap[w.heap.size]? = some (.cells #[.int .i64 0, .int .i64 0] 28 (0, 0))
  x : Ext w wx
theorem rdIs0 {w : World} {S : ByteArray} {t : List Int} {R : List Int × (Int × Int)} {n : Nat} (h : Acc.readGo 0 (-1) Acc.zeros (t.drop 0) = R) : RdIs w ((w.alloc (.cells #[.int .i64 0, .int .i64 0] 28)).alloc (.cells (rowOf Acc.zeros) 3)) S t R n 0 (-1) Acc.zeros :=
  ⟨h, by simp [Acc.zeros], heap_alloc2_new w _ _, heap_alloc2_old w _ _, ((Ext.refl w).alloc _).alloc _⟩
theorem readGo_step {i : Nat} {last : Int} {out t : List Int} (h : t ≠ []) : Acc.readGo i last out t = match Acc.readCard (t.take 10) with
    | none => ([], (1, (i : Int)))
    | some (a, v) => if v = 0 then ([], (6, (i : Int))) else if (a : Int) ≤ last then ([], (11, (i : Int))) else Acc.readGo (i + 1) a (out.set a v) (t.drop 10) := by
  cases t with
  | nil => exact absurd rfl h
  | cons x r => rw [Acc.readGo.eq_def]; rfl
theorem chunk_eq {t : List Int} {S : ByteArray} {n : Nat} (i : Nat) (hS : S = strOfNums t) (hn : n = t.length) : S.extract (i * 10) (min (((i : Int) + 1) * 10) (n : Int)).toNat = strOfNums ((t.drop (10 * i)).take 10) := by
  subst hS hn
  rw [extract_nums, Nat.mul_comm i 10]
  congr 1
  by_cases h : 10 * i + 10 ≤ t.length
  · rw [show (min (((i : Int) + 1) * 10) (t.length : Int)).toNat - 10 * i = 10 by omega]
  · rw [List.take_of_length_le (by rw [List.length_drop]; omega), List.take_of_length_le (by rw [List.length_drop]; omega)]
theorem row_at {out : List Int} (h : out.length = 100) {a : Nat} (ha : a < 100) : ∃ y, (rowOf out)[a]? = some (.int .i64 y) := by
  refine ⟨out[a], ?_⟩
  unfold rowOf
  rw [List.getElem?_toArray, List.getElem?_map, List.getElem?_eq_getElem (by omega)]
  rfl
theorem row_set {out : List Int} {a : Nat} {v : Int} : (rowOf out).setIfInBounds a (.int .i64 v) = rowOf (out.set a v) := by
  unfold rowOf
  rw [List.setIfInBounds_toArray, List.map_set]
theorem heap_set_any {w : World} {bm : Nat} {cs : Array Value} {t : TypeId} (h : w.heap[bm]? = some (.cells cs t (0, 0))) (i : Nat) (u : Value) : (w.setCell ⟨bm, i, none⟩ u).heap[bm]? = some (.cells (cs.setIfInBounds i u) t (0, 0)) := by
  simp [World.setCell, Array.getElem?_modify, h]
theorem rd_next {w w2 : World} {S : ByteArray} {t : List Int} {R : List Int × (Int × Int)} {n i a : Nat} {v : Int} {out : List Int} (hl : out.length = 100) (_ha : a < 100) (hr : w2.heap[w.heap.size + 1]? = some (.cells (rowOf out) 3 (0, 0)))
    (hf : w2.heap[w.heap.size]? = some (.cells #[.int .i64 0, .int .i64 0] 28 (0, 0))) (hx : Ext w w2) (hg : Acc.readGo (i + 1) a (out.set a v) (t.drop (10 * (i + 1))) = R) : RdIs w (w2.setCell ⟨w.heap.size + 1, a, none⟩ (.int .i64 v)) S t R n (i + 1) a (out.set a v) :=
  ⟨hg, by simpa using hl, by rw [← row_set]; exact heap_set_any hr a _, by rw [Below.heap_setCell _ _ _ _ (by show w.heap.size ≠ w.heap.size + 1; omega)]; exact hf, Ext.setCell (p := ⟨w.heap.size + 1, a, none⟩) hx (by show w.heap.size ≤ w.heap.size + 1; omega) _⟩
theorem dret_row {w wx : World} {out : List Int} {p : Int × Int} (hl : out.length = 100) (hr : wx.heap[w.heap.size + 1]? = some (.cells (rowOf out) 3 (0, 0))) {u v : Value} (hx : Ext w ((wx.setCell ⟨w.heap.size, 0, none⟩ u).setCell ⟨w.heap.size, 1, none⟩ v)) :
    DRet w (out, p) (.returned (.tuple #[.slice (some ⟨w.heap.size + 1, 0, none⟩) 100 100, fAgg p])) ((wx.setCell ⟨w.heap.size, 0, none⟩ u).setCell ⟨w.heap.size, 1, none⟩ v) := by
  have hr2 : ((wx.setCell ⟨w.heap.size, 0, none⟩ u).setCell ⟨w.heap.size, 1, none⟩ v).heap[w.heap.size + 1]? = some (.cells (rowOf out) 3 (0, 0)) := by
    rw [Below.heap_setCell _ _ _ _ (by show w.heap.size + 1 ≠ w.heap.size; omega), Below.heap_setCell _ _ _ _ (by show w.heap.size + 1 ≠ w.heap.size; omega)]
    exact hr
  refine ⟨some ⟨w.heap.size + 1, 0, none⟩, 100, by rw [hl], sl_of_cells hr2 fun i x hx => ?_, (fun h => by cases h), by rw [hl]; exact Nat.le_refl _, by decide, hx⟩
  unfold rowOf
  rw [List.getElem?_toArray, List.getElem?_map, hx]
  rfl
theorem dret_row2 {w wx : World} {out : List Int} {p : Int × Int} {R : List Int × (Int × Int)} (h : (out, p) = R) (hl : out.length = 100) (hr : wx.heap[w.heap.size + 1]? = some (.cells (rowOf out) 3 (0, 0))) {u v : Value} (hx : Ext w ((wx.setCell ⟨w.heap.size, 0, none⟩ u).setCell ⟨w.heap.size, 1, none⟩ v)) :
    DRet w R (.returned (.tuple #[.slice (some ⟨w.heap.size + 1, 0, none⟩) 100 100, fAgg p])) ((wx.setCell ⟨w.heap.size, 0, none⟩ u).setCell ⟨w.heap.size, 1, none⟩ v) := h ▸ dret_row hl hr hx
theorem read_all (t : List Int) (w : World) (hb : Byt t) (h : t.length ≤ 1000) : Calls Tryd.prog 24 #[.string (strOfNums t)] w (DRet w (Acc.readDeck t)) := by
  have he : Acc.readDeck t = Acc.readGo 0 (-1) Acc.zeros t := by unfold Acc.readDeck; rw [if_neg (by omega)]
  rw [he]
  obtain ⟨R, hR⟩ : ∃ R, Acc.readGo 0 (-1) Acc.zeros t = R := ⟨_, rfl⟩
  rw [hR]
  have HR := Lib.hid hR
  obtain ⟨S, hS⟩ : ∃ S, S = strOfNums t := ⟨_, rfl⟩
  obtain ⟨n, hn⟩ : ∃ n, n = t.length := ⟨_, rfl⟩
  have hsz : S.size = n := by rw [hS, strOfNums_size, hn]
  have hn1 : n ≤ 1000 := by omega
  have HS := Lib.hid hS
  have HN := Lib.hid hn
  have HB := Lib.hid hb
  have HM := Lib.hid (fun W => run_make100 W)
  have hmk := run_make100 (w.alloc (.cells #[.int .i64 0, .int .i64 0] 28))
  rw [← hS]
  clear he hR hS hn hb h
  have HZ := Lib.hid hsz
  go_enter Tryd.func24, Tryd.ntmps24
  go_wp2
  go_loopw [5, 6] (fun t5 t6 wx => ∃ i : Nat, ∃ last : Int, ∃ out, t6 = .int .i64 i ∧ t5 = .int .i64 last ∧ i ≤ 101 ∧ -1 ≤ last ∧ last ≤ 99 ∧ RdIs w wx S t R n i last out) (fun _ t6 _ => 200 - (intOf t6).toNat)
  case atStart => exact ⟨0, -1, Acc.zeros, rfl, rfl, by omega, by omega, by omega, rdIs0 (by rw [List.drop_zero]; exact HR.out)⟩
  case round =>
    obtain ⟨i, last, out, rfl, rfl, hi, hl1, hl2, hrd⟩ := hrel
    have HRD := Lib.hid hrd
    clear hrd
    by_cases hlt : 10 * i < n
    · have HEX := Lib.hid (chunk_eq (t := t) (n := n) i HS.out HN.out)
      have HGO := Lib.hid (HRD.out.go)
      have HNE : Hid (t.drop (10 * i) ≠ []) := Lib.hid (fun q => by have := congrArg List.length q; rw [List.length_drop, ← HN.out] at this; simp at this; omega)
      go_wp2_with fail
      rw [HEX.out]
      refine (readCard_c _ wr (fun x hx => HB.out x (List.mem_of_mem_drop (List.mem_of_mem_take hx))) (by rw [List.length_take]; omega)).mono ?_
      rintro e w2 ⟨hx2, hcase⟩
      have HFL := Lib.hid (ext_heap hx2 HRD.out.flt)
      have HRO := Lib.hid (ext_heap hx2 HRD.out.row)
      have HX2 := Lib.hid (HRD.out.x.trans hx2)
      have hb2 := Blk2.mk' HFL.out
      obtain ⟨c0, c1, f0, f1⟩ := hb2
      have hlt2 : w.heap.size + 1 < w2.heap.size := (Array.getElem?_eq_some_iff.1 HRO.out).1
      have hlt3 : w.heap.size < w2.heap.size := by omega
      clear hx2
      rcases hcase with ⟨a, v, hrc, rfl⟩ | ⟨hrc, a, v, rfl⟩
      · have HRC := Lib.hid hrc
        clear hrc
        by_cases hv : v = 0
        · subst hv
          have HRE : Hid (([], ((6 : Int), (i : Int))) = R) := Lib.hid (by rw [← HGO.out, readGo_step HNE.out, HRC.out]; simp)
          go_wp2_with (go_at_call 40; refine (fault_c _ _ _).mono ?_; rintro e w' ⟨rfl, rfl⟩)
          refine bodyPost_ret (results_tc Tryd.results24 _ _ w.heap.size 28 #[.int .i64 6, .int .i64 (i : Int)] (0, 0) _ rfl (by first | exact fblk_fin (c := 6) (i := (i : Int)) HFL.out _ | exact fblk_set (c := 6) (i := (i : Int)) HFL.out) Tryd.underlying28 rfl sizeF) rfl (dret_nil2 HRE.out (by first | exact Ext.alloc (ext_set2 HX2.out (Nat.le_refl _) (.int .i64 6) (.int .i64 (i : Int))) _ | exact ext_set2 HX2.out (Nat.le_refl _) (.int .i64 6) (.int .i64 (i : Int))))
        · have q1 : (v == 0) = false := by simpa using hv
          obtain ⟨-, ha1, hv5⟩ := Acc.card_readCard HRC.out hv
          have HV := Lib.hid hv
          clear hv
          by_cases hle : (a : Int) ≤ last
          · have HRE : Hid (([], ((11 : Int), (i : Int))) = R) := Lib.hid (by rw [← HGO.out, readGo_step HNE.out, HRC.out]; simp only; rw [if_neg HV.out, if_pos hle])
            go_wp2_with (go_at_call 40; refine (fault_c _ _ _).mono ?_; rintro e w' ⟨rfl, rfl⟩)
            refine bodyPost_ret (results_tc Tryd.results24 _ _ w.heap.size 28 #[.int .i64 11, .int .i64 (i : Int)] (0, 0) _ rfl (by first | exact fblk_fin (c := 11) (i := (i : Int)) HFL.out _ | exact fblk_set (c := 11) (i := (i : Int)) HFL.out) Tryd.underlying28 rfl sizeF) rfl (dret_nil2 HRE.out (by first | exact Ext.alloc (ext_set2 HX2.out (Nat.le_refl _) (.int .i64 11) (.int .i64 (i : Int))) _ | exact ext_set2 HX2.out (Nat.le_refl _) (.int .i64 11) (.int .i64 (i : Int))))
          · have HRE : Hid (Acc.readGo (i + 1) a (out.set a v) (t.drop (10 * (i + 1))) = R) := Lib.hid (by rw [← HGO.out, readGo_step HNE.out, HRC.out]; simp only; rw [if_neg HV.out, if_neg hle, List.drop_drop]; rfl)
            have HN2 := Lib.hid (rd_next HRD.out.len ha1 HRO.out HFL.out HX2.out HRE.out (S := S) (n := n))
            obtain ⟨y, hy⟩ : ∃ y, w2.cell? ⟨w.heap.size + 1, a, none⟩ = some (.int .i64 y) := by rw [blk_cell HRO.out]; exact row_at HRD.out.len ha1
            have fy := blk_frozen HRO.out a
            have i0 : (0 : Int) ≤ (a : Int) := by omega
            have i1 : (a : Int) < 100 := by omega
            go_wp2_with fail
            go_roundw
            case rel => exact ⟨i + 1, a, out.set a v, by go_num, rfl, by omega, by omega, by omega, HN2.out⟩
            case measure => simp [intOf]; omega
      · have HRE : Hid (([], ((1 : Int), (i : Int))) = R) := Lib.hid (by rw [← HGO.out, readGo_step HNE.out, hrc])
        clear hrc
        go_wp2_with (go_at_call 40; refine (fault_c _ _ _).mono ?_; rintro e w' ⟨rfl, rfl⟩)
        refine bodyPost_ret (results_tc Tryd.results24 _ _ w.heap.size 28 #[.int .i64 1, .int .i64 (i : Int)] (0, 0) _ rfl (by first | exact fblk_fin (c := 1) (i := (i : Int)) HFL.out _ | exact fblk_set (c := 1) (i := (i : Int)) HFL.out) Tryd.underlying28 rfl sizeF) rfl (dret_nil2 HRE.out (by first | exact Ext.alloc (ext_set2 HX2.out (Nat.le_refl _) (.int .i64 1) (.int .i64 (i : Int))) _ | exact ext_set2 HX2.out (Nat.le_refl _) (.int .i64 1) (.int .i64 (i : Int))))
    · have HRE : Hid ((out, ((0 : Int), (0 : Int))) = R) := Lib.hid (by rw [← HRD.out.go, List.drop_eq_nil_of_le (by rw [← HN.out]; omega), Acc.readGo_nil])
      have HFL := Lib.hid HRD.out.flt
      have hb2 := Blk2.mk' HFL.out
      obtain ⟨c0, c1, f0, f1⟩ := hb2
      have hlt2 : w.heap.size + 1 < wr.heap.size := (Array.getElem?_eq_some_iff.1 HRD.out.row).1
      have hlt3 : w.heap.size < wr.heap.size := by omega
      go_wp2_with fail
      refine bodyPost_ret (results_tc Tryd.results24 _ _ w.heap.size 28 #[.int .i64 0, .int .i64 0] (0, 0) _ rfl (fblk_set HFL.out) Tryd.underlying28 rfl sizeF) rfl (dret_row2 HRE.out HRD.out.len HRD.out.row (ext_set2 HRD.out.x (Nat.le_refl _) _ _))
end Go.Proofs.YtbaahbpianingaaDoor
namespace Go.Proofs.YtbaahbpianingaaDoor
open Go Go.Proofs Go.RowKit
open Acc (Dk red five)
set_option maxHeartbeats 1000000
set_option maxRecDepth 100000
def exW : List Int := [104, 503, 1400, 7, 250]
def exS : Dk := { dk0 with words := exW ++ List.replicate (100 - exW.length) 0, input := [] }
def ex1 : Dk := { exS with at_ := 1, a := 250 }
def ex2 : Dk := { exS with at_ := 2, a := 1750, q := 0 }
def ex3 : Dk := { exS with at_ := 3, a := 1750, q := 0, output := [49, 55, 53, 48, 10] }
def ex4 : Dk := { exS with at_ := 4, a := 1750, q := 0, output := [49, 55, 53, 48, 10], stop := 1 }
theorem ex_line : Acc.lineF 1750 = [49, 55, 53, 48, 10] := by
  unfold Acc.lineF Acc.signed
  rw [if_neg (by decide)]
  show Acc.dec 1750 ++ [10] = _
  rw [Acc.dec_big (by decide), Acc.dec_big (by decide), Acc.dec_big (by decide), Acc.dec_small (by decide)]
  rfl
theorem ex_s1 : Acc.stepF exS = ex1 := by rfl
theorem ex_s2 : Acc.stepF ex1 = ex2 := by rfl
theorem ex_s3 : Acc.stepF ex2 = ex3 := by
  have ho : Acc.opF ex2 = 14 := by rfl
  have ha : Acc.addrF ex2 = ((0 : Nat) : Int) := by rfl
  have he : Acc.stopF ex2 = 0 := by
    unfold Acc.stopF
    rw [if_neg (by decide), if_neg (by rw [ho]; decide), if_neg (by rw [ha]; decide), if_neg (by rw [ho]; decide), if_neg]
    rintro ⟨_, h⟩
    have : (Acc.lineF ex2.a) = [49, 55, 53, 48, 10] := ex_line
    rw [this] at h
    revert h
    decide
  rw [step_with he ho ha]
  have : Acc.effF { ex2 with at_ := ex2.at_ + 1 } 14 ((0 : Nat) : Int) = { ex2 with at_ := ex2.at_ + 1, output := ex2.output ++ Acc.lineF 1750 } := by rfl
  rw [this, ex_line]
  rfl
theorem ex_s4 : Acc.stepF ex3 = ex4 := by rfl
theorem ex_run : Acc.runF 9 exS = (ex4, 4) := by
  have q : ∀ n s, s.stop = 0 → Acc.runF (n + 1) s = ((Acc.runF n (Acc.stepF s)).1, (Acc.runF n (Acc.stepF s)).2 + 1) := fun n s h => by rw [Acc.runF, if_pos h]
  rw [q 8 exS rfl, ex_s1, q 7 ex1 rfl, ex_s2, q 6 ex2 rfl, ex_s3, q 5 ex3 rfl, ex_s4, Acc.run_stopped (by decide)]
theorem ex_start : startG exW [] = (exS, (0, 0)) := by
  have h : faultW exW = (0, 0) := by decide +kernel
  unfold startG
  rw [if_pos h, if_neg (by decide)]
  rfl
theorem ex_fault : faultD exS = (0, 0) := by decide +kernel
theorem ex_run9 : runG exS 9 = (ex4, 4, (0, 0)) := by
  unfold runG
  rw [if_pos ex_fault, if_pos (by decide)]
  have : (9 : Int).toNat = 9 := rfl
  rw [this, ex_run]; rfl
theorem ex_run1 : runG exS 1 = (ex1, 1, (0, 0)) := by
  unfold runG
  rw [if_pos ex_fault, if_pos (by decide)]
  have : (1 : Int).toNat = 1 := rfl
  rw [this, Acc.runF, if_pos (by rfl), ex_s1]; rfl
theorem ex_valid : faultD ex4 = (0, 0) := by decide +kernel
def exC : List Int := [48, 49, 32, 45, 48, 48, 48, 49, 50, 10]
theorem ex_deck : Acc.deckText [0, -12] = exC := by
  unfold Acc.deckText
  rw [Acc.deckGo, if_pos rfl, Acc.deckGo, if_neg (by decide), Acc.deckGo]
  unfold Acc.cardF
  have h1 : Acc.dec (0 + 1) = [49] := by rw [Acc.dec_small (by decide)]; rfl
  have h2 : Acc.dec (-12 : Int).natAbs = [49, 50] := by
    show Acc.dec 12 = _
    rw [Acc.dec_big (by decide), Acc.dec_small (by decide)]; rfl
  rw [h1, h2]
  rfl
theorem ex_write : writeD [0, -12] = (exC, (0, 0)) := by
  have h : faultW [0, -12] = (0, 0) := by decide +kernel
  unfold writeD
  rw [if_pos h, ex_deck]
theorem ex_read : Acc.readDeck exC = ([0, -12] ++ List.replicate 98 0, (0, 0)) := by
  rw [← ex_deck]
  exact Acc.read_written (by decide) (by decide)
end Go.Proofs.YtbaahbpianingaaDoor
namespace Go.Proofs.YtbaahbpianingaaDoor
open Go Go.Proofs Go.RowKit
open Acc (Dk red five)
set_option maxHeartbeats 3200000
set_option maxRecDepth 100000
/-- A variable of the state's type. -/
structure Var (w : World) (g : Nat) (cs : Array Value) (s : Dk) : Prop where
  g : w.heap[g]? = some (.cells cs 25 (0, 0))
  st : DkIs w cs s
theorem Var.ext {w w' : World} {g : Nat} {cs : Array Value} {s : Dk} (h : Var w g cs s) (x : Ext w w') : Var w' g cs s := ⟨ext_heap x h.g, h.st.ext x⟩
def asgW (w1 : World) (cs' : Array Value) (c i : Int) : World := ((((w1.alloc (.cells zeroDk 25)).alloc (.cells #[.int .i64 0, .int .i64 0] 28)).setRow w1.heap.size cs').setRow (w1.heap.size + 1) #[.int .i64 c, .int .i64 i])
structure Asg (w1 W : World) (cs' : Array Value) (s : Dk) (c i : Int) : Prop where
  v : Var W w1.heap.size cs' s
  f : W.heap[w1.heap.size + 1]? = some (.cells #[.int .i64 c, .int .i64 i] 28 (0, 0))
  x : Ext w1 W
theorem asg_mk (w1 : World) {cs' : Array Value} {s : Dk} (h : DkIs w1 cs' s) (c i : Int) : Asg w1 (asgW w1 cs' c i) cs' s c i := by
  have hx : Ext w1 (asgW w1 cs' c i) := (((((Ext.refl w1).alloc _).alloc _).setRow (Nat.le_refl _) _).setRow (by omega) _)
  have hh := step_heap w1 cs' c i (.cells #[.int .i64 0, .int .i64 0] 28)
  exact ⟨⟨hh.1, h.ext hx⟩, hh.2, hx⟩
theorem sl_block {w : World} {g : Nat} {cs : Array Value} {t : TypeId} {fr : Nat × Nat} {k : IntKind} {l : List Int} (h : w.heap[g]? = some (.cells cs t fr)) (hl : cs.toList = l.map (Value.int k)) : Sl w k (some ⟨g, 0, none⟩) l := by
  intro i u hu
  refine ⟨_, rfl, ?_⟩
  have : (Addr.add ⟨g, 0, none⟩ i) = ⟨g, i, none⟩ := by
    by_cases h0 : i = 0
    · subst h0; simp [Addr.add]
    · simp [Addr.add, h0]
  rw [this, cell_of_row w g i cs t fr h, ← Array.getElem?_toList, hl]
  exact hu
theorem wpList_load_rowg {P : Program} {ops : Array Oper} {rest : List Oper} {o : Oper} {a : Act} {w : World} {Q : Exit → Act → World → Prop} (hw : Region.wanted o (yielded ops a.tmps) = true) (ty : TypeId) (x : Operand) (ho : o.op = .load ty x)
    (g : Nat) (hx : a.eval x = .pointer (some ⟨g, 0, none⟩)) (t : TypeId) (cs : Array Value) (fr : Nat × Nat) (d : TypeDesc) (hg : w.heap[g]? = some (.cells cs t fr))
    (hu : P.underlying ty = some d) (hd : (match d with | .struct _ | .array _ _ => true | _ => false) = true) (hi : (P.info? ty).map (·.size) = some cs.size)
    (h : wpList P ops Q rest (a.put o.dst (.agg cs)) w) : wpList P ops Q (o :: rest) a w := by
  refine wpList_step fun K hK => ?_
  rw [if_pos hw]
  exact wp_load_row ty x ho g hx t cs fr d hg hu hd hi (hK _ _ h)
theorem fld0 (c i : Int) (w : World) : (Instr.field 28 (.agg #[.int .i64 c, .int .i64 i]) 0).run Tryd.prog w = .ok (.int .i64 c) w := by kernel_rfl
theorem ex_nums : (⟨#[48, 49, 32, 45, 48, 48, 48, 49, 50, 10]⟩ : ByteArray) = strOfNums exC := by rfl
theorem byt_exC : Byt exC := by intro x hx; unfold exC at hx; simp at hx; omega
theorem decked_c (w : World) (ht : Tabs w) (h8 : 2 ≤ w.heap.size) : Calls Tryd.prog 19 #[] w (BRet w true) := by
  have HT := Lib.hid ht
  clear ht
  go_enter Tryd.func19, Tryd.ntmps19
  go_upto_region 1 with (fail)
  go_cut [1, 2] (fun s1 s2 wx => ∃ g cs, s1 = .pointer (some ⟨g, 0, none⟩) ∧ s2 = .pointer (some ⟨g + 1, 0, none⟩) ∧ Var wx g cs exS ∧ wx.heap[g + 1]? = some (.cells #[.int .i64 0, .int .i64 0] 28 (0, 0)) ∧ Ext w wx)
  case first =>
    go_wp2_with fail
    have HX0 := Lib.hid ((Ext.refl w).alloc (.cells #[.int .i64 104, .int .i64 503, .int .i64 1400, .int .i64 7, .int .i64 250] 3))
    have HS := Lib.hid (start_all (some ⟨w.heap.size, 0, none⟩) none exW [] 5 0 (w.alloc (.cells #[.int .i64 104, .int .i64 503, .int .i64 1400, .int .i64 7, .int .i64 250] 3)) (by decide) (by decide) (sl_block (heap_alloc_new w _) rfl) (fun h => by cases h) byt_nil (SlC.nil _ _) (fun _ => rfl))
    refine HS.out.mono ?_
    rw [ex_start]
    rintro e w1 ⟨cs', rfl, hst, hx1⟩
    have HA := Lib.hid (asg_mk w1 hst.st 0 0)
    have HS2 := Lib.hid hst.st.size
    have HO := Lib.hid (dk_one hst.st)
    have HX1 := Lib.hid hx1
    have HZ := Lib.hid (heap_alloc2_old w1 (.cells zeroDk 25) (.cells #[.int .i64 0, .int .i64 0] 28))
    have HF := Lib.hid ((setRow_other _ w1.heap.size (w1.heap.size + 1) cs' (by omega)).trans (heap_alloc2_new w1 (.cells zeroDk 25) (.cells #[.int .i64 0, .int .i64 0] 28)))
    clear hst hx1
    simp only [fAgg]
    go_wp2_with (first | refine wpList_allocS rfl rfl ?_ | refine wpList_store_row rfl 25 _ _ rfl w1.heap.size cs' rfl rfl 25 zeroDk HZ.out (by rw [HS2.out]; exact sizeS) (by rw [HS2.out]; rfl) HO.out ?_ | refine wpList_store_row rfl 28 _ _ rfl (w1.heap.size + 1) #[.int .i64 0, .int .i64 0] rfl rfl 28 _ HF.out sizeF rfl (by kernel_rfl) ?_)
    go_meet
    exact ⟨_, cs', rfl, rfl, HA.out.v, HA.out.f, HX0.out.trans (HX1.out.trans HA.out.x)⟩
  case rest =>
    obtain ⟨g, cs, rfl, rfl, hv, hf, hx⟩ := hcut
    obtain ⟨wa, rfl⟩ : ∃ wa : World, wa = wc := ⟨_, rfl⟩
    have HV := Lib.hid hv
    have HF1 := Lib.hid hf
    have HX := Lib.hid hx
    have HS := Lib.hid hv.st.size
    clear hv hf hx
    go_upto_region 2 with (fail)
    go_cut [3, 4, 5] (fun s3 s4 s5 wx => ∃ g3 cs3, s3 = .pointer (some ⟨g3, 0, none⟩) ∧ s4 = .int .i64 4 ∧ s5 = .pointer (some ⟨g3 + 1, 0, none⟩) ∧ Var wx g3 cs3 ex4 ∧ wx.heap[g3 + 1]? = some (.cells #[.int .i64 0, .int .i64 0] 28 (0, 0)) ∧ Ext wa wx)
    case first =>
      have HR := Lib.hid (run_all cs exS 9 wa HV.out.st (HT.out.below HX.out h8) (Nat.le_trans h8 HX.out.size))
      go_wp2_with (refine wpList_load_row rfl 25 _ rfl g rfl 25 cs (0, 0) _ HV.out.g Tryd.underlying25 rfl (by rw [HS.out]; exact sizeS) ?_)
      refine HR.out.mono ?_
      rw [ex_run9]
      rintro e w1 ⟨cs', rfl, hst, hx1⟩
      have HA := Lib.hid (asg_mk w1 hst.st 0 0)
      have HS2 := Lib.hid hst.st.size
      have HO := Lib.hid (dk_one hst.st)
      have HX1 := Lib.hid hx1
      have HZ := Lib.hid (heap_alloc2_old w1 (.cells zeroDk 25) (.cells #[.int .i64 0, .int .i64 0] 28))
      have HF := Lib.hid ((setRow_other _ w1.heap.size (w1.heap.size + 1) cs' (by omega)).trans (heap_alloc2_new w1 (.cells zeroDk 25) (.cells #[.int .i64 0, .int .i64 0] 28)))
      clear hst hx1
      simp only [fAgg]
      go_wp2_with (first | refine wpList_allocS rfl rfl ?_ | refine wpList_store_row rfl 25 _ _ rfl w1.heap.size cs' rfl rfl 25 zeroDk HZ.out (by rw [HS2.out]; exact sizeS) (by rw [HS2.out]; rfl) HO.out ?_ | refine wpList_store_row rfl 28 _ _ rfl (w1.heap.size + 1) #[.int .i64 0, .int .i64 0] rfl rfl 28 _ HF.out sizeF rfl (by kernel_rfl) ?_)
      go_meet
      exact ⟨_, cs', rfl, rfl, rfl, HA.out.v, HA.out.f, HX1.out.trans HA.out.x⟩
    case rest =>
      obtain ⟨g3, cs3, rfl, rfl, rfl, hv3, hf3, hx3⟩ := hcut
      obtain ⟨wb, rfl⟩ : ∃ wb : World, wb = wc := ⟨_, rfl⟩
      have HV1 := Lib.hid (HV.out.ext hx3)
      have HFA := Lib.hid (ext_heap hx3 HF1.out)
      have HV3 := Lib.hid hv3
      have HF3 := Lib.hid hf3
      have HX3 := Lib.hid (HX.out.trans hx3)
      clear hv3 hf3 hx3 HV HF1 HX
      go_upto_region 3 with (fail)
      go_cut [6, 7] (fun s6 s7 wx => ∃ g6 cs6, s6 = .pointer (some ⟨g6, 0, none⟩) ∧ s7 = .pointer (some ⟨g6 + 1, 0, none⟩) ∧ Var wx g6 cs6 ex1 ∧ wx.heap[g6 + 1]? = some (.cells #[.int .i64 0, .int .i64 0] 28 (0, 0)) ∧ Ext wb wx)
      case first =>
        have HR := Lib.hid (step_go cs exS wb HV1.out.st (HT.out.below HX3.out h8) (Nat.le_trans h8 HX3.out.size))
        go_wp2_with (refine wpList_load_row rfl 25 _ rfl g rfl 25 cs (0, 0) _ HV1.out.g Tryd.underlying25 rfl (by rw [HS.out]; exact sizeS) ?_)
        refine HR.out.mono ?_
        rw [ex_run1]
        rintro e w1 ⟨cs', rfl, hst, hx1⟩
        have HA := Lib.hid (asg_mk w1 hst.st 0 0)
        have HS2 := Lib.hid hst.st.size
        have HO := Lib.hid (dk_one hst.st)
        have HX1 := Lib.hid hx1
        have HZ := Lib.hid (heap_alloc2_old w1 (.cells zeroDk 25) (.cells #[.int .i64 0, .int .i64 0] 28))
        have HF := Lib.hid ((setRow_other _ w1.heap.size (w1.heap.size + 1) cs' (by omega)).trans (heap_alloc2_new w1 (.cells zeroDk 25) (.cells #[.int .i64 0, .int .i64 0] 28)))
        clear hst hx1
        simp only [fAgg]
        go_wp2_with (first | refine wpList_allocS rfl rfl ?_ | refine wpList_store_row rfl 25 _ _ rfl w1.heap.size cs' rfl rfl 25 zeroDk HZ.out (by rw [HS2.out]; exact sizeS) (by rw [HS2.out]; rfl) HO.out ?_ | refine wpList_store_row rfl 28 _ _ rfl (w1.heap.size + 1) #[.int .i64 0, .int .i64 0] rfl rfl 28 _ HF.out sizeF rfl (by kernel_rfl) ?_)
        go_meet
        exact ⟨_, cs', rfl, rfl, HA.out.v, HA.out.f, HX1.out.trans HA.out.x⟩
      case rest =>
        obtain ⟨g6, cs6, rfl, rfl, hv6, hf6, hx6⟩ := hcut
        obtain ⟨wd, rfl⟩ : ∃ wd : World, wd = wc := ⟨_, rfl⟩
        have HFB := Lib.hid (ext_heap hx6 HFA.out)
        have HFC := Lib.hid (ext_heap hx6 HF3.out)
        have HV4 := Lib.hid (HV3.out.ext hx6)
        have HV6 := Lib.hid hv6
        have HF6 := Lib.hid hf6
        have HX6 := Lib.hid (HX3.out.trans hx6)
        clear hv6 hf6 hx6 HV3 HFA HF3 HX3
        go_upto_region 4 with (fail)
        go_cut [8, 9] (fun s8 s9 wx => ∃ g9, s8 = .string ⟨#[48, 49, 32, 45, 48, 48, 48, 49, 50, 10]⟩ ∧ s9 = .pointer (some ⟨g9, 0, none⟩) ∧ wx.heap[g9]? = some (.cells #[.int .i64 0, .int .i64 0] 28 (0, 0)) ∧ Ext wd wx)
        case first =>
          go_wp2_with fail
          have HXA := Lib.hid ((Ext.refl wd).alloc (.cells #[.int .i64 0, .int .i64 (-12)] 3))
          have HW := Lib.hid (write_all (some ⟨wd.heap.size, 0, none⟩) [0, -12] 2 (wd.alloc (.cells #[.int .i64 0, .int .i64 (-12)] 3)) (by decide) (sl_block (heap_alloc_new wd _) rfl) (HT.out.below (HX6.out.trans HXA.out) h8) (Nat.le_trans h8 (HX6.out.trans HXA.out).size))
          refine HW.out.mono ?_
          rw [ex_write]
          rintro e w1 ⟨rfl, hx1⟩
          have HX1 := Lib.hid (HXA.out.trans hx1)
          clear hx1
          simp only [fAgg]
          go_wp2_with fail
          go_meet
          exact ⟨_, rfl, rfl, heap_alloc_new w1 _, HX1.out.trans ((Ext.refl w1).alloc _)⟩
        case rest =>
          obtain ⟨g9, rfl, rfl, hf9, hx9⟩ := hcut
          obtain ⟨we, rfl⟩ : ∃ we : World, we = wc := ⟨_, rfl⟩
          have HFD := Lib.hid (ext_heap hx9 HFB.out)
          have HFE := Lib.hid (ext_heap hx9 HFC.out)
          have HV5 := Lib.hid (HV4.out.ext hx9)
          have HV7 := Lib.hid (HV6.out.ext hx9)
          have HF7 := Lib.hid (ext_heap hx9 HF6.out)
          have HF9 := Lib.hid hf9
          have HX9 := Lib.hid (HX6.out.trans hx9)
          clear hf9 hx9 HFB HFC HV4 HV6 HF6 HX6
          go_upto_region 5 with (fail)
          go_cut [10, 11] (fun s10 s11 wx => ∃ A c g11, s10 = .slice A 100 c ∧ Sl wx .i64 A ([0, -12] ++ List.replicate 98 0) ∧ c ≤ maxLen ∧ s11 = .pointer (some ⟨g11, 0, none⟩) ∧ wx.heap[g11]? = some (.cells #[.int .i64 0, .int .i64 0] 28 (0, 0)) ∧ Ext we wx)
          case first =>
            have hrd := read_all exC we (byt_exC) (by decide)
            rw [ex_read, ← ex_nums] at hrd
            have HRD := Lib.hid hrd
            clear hrd
            go_wp2_with fail
            refine HRD.out.mono ?_
            rintro e w1 ⟨A, c, rfl, hsl, _, _, hcm, hx1⟩
            have HX1 := Lib.hid hx1
            have HSL := Lib.hid hsl
            have HCM := Lib.hid hcm
            clear hx1 hsl hcm
            simp only [fAgg]
            go_wp2_with fail
            go_meet
            exact ⟨A, c, _, rfl, HSL.out.ext ((Ext.refl w1).alloc _), HCM.out, rfl, heap_alloc_new w1 _, HX1.out.trans ((Ext.refl w1).alloc _)⟩
          case rest =>
            obtain ⟨A, c, g11, rfl, hsl, hcm, rfl, hf11, hx11⟩ := hcut
            have f2 : wc.cell? ⟨g + 1, 0, none⟩ = some (.int .i64 0) := blk_cell (ext_heap hx11 HFD.out) 0
            have f5 : wc.cell? ⟨g3 + 1, 0, none⟩ = some (.int .i64 0) := blk_cell (ext_heap hx11 HFE.out) 0
            have f7 : wc.cell? ⟨g6 + 1, 0, none⟩ = some (.int .i64 0) := blk_cell (ext_heap hx11 HF7.out) 0
            have f9 : wc.cell? ⟨g9, 0, none⟩ = some (.int .i64 0) := blk_cell (ext_heap hx11 HF9.out) 0
            have f11 : wc.cell? ⟨g11, 0, none⟩ = some (.int .i64 0) := blk_cell hf11 0
            have v3 := HV5.out.ext hx11
            have v6 := HV7.out.ext hx11
            obtain ⟨A6, c6, e6, _, m6, _, s6⟩ := v3.st.output
            have o6 : wc.cell? ⟨g3, 106, none⟩ = some (.slice A6 5 c6) := (blk_cell v3.g 106).trans e6
            have o7 : wc.cell? ⟨g3, 107, none⟩ = some (.int .i64 1) := (blk_cell v3.g 107).trans v3.st.stop
            have o1 : wc.cell? ⟨g6, 101, none⟩ = some (.int .i64 250) := (blk_cell v6.g 101).trans v6.st.a
            obtain ⟨b, o, rfl, k0⟩ := hsl.at_ (i := 0) (by decide)
            obtain ⟨b', o', hbo, k1⟩ := hsl.at_ (i := 1) (by decide)
            cases hbo
            have k0 : wc.cell? ⟨b, o, none⟩ = some (.int .i64 0) := k0
            have k1 : wc.cell? ⟨b, o + 1, none⟩ = some (.int .i64 (-12)) := k1
            have hcv : (convert 23 9 (.slice A6 5 c6)).run Tryd.prog wc = .ok (.string ⟨#[49, 55, 53, 48, 10]⟩) wc := Sl.conv (l := [49, 55, 53, 48, 10]) s6 23 5 9 Tryd.underlying23 Tryd.underlying5 Tryd.underlying9 c6
            have HVC := Lib.hid (Valid_c cs3 _ wc v3.st)
            have HG3 := Lib.hid v3.g
            have HS3 := Lib.hid v3.st.size
            have HX12 := Lib.hid (HX9.out.trans hx11)
            clear v3 v6 hf11 hx11 e6 s6 hsl hcm
            go_wp2_with (refine wpList_load_rowg (by rfl) 25 _ rfl g3 (by rfl) 25 cs3 (0, 0) _ HG3.out Tryd.underlying25 rfl (by rw [HS3.out]; exact sizeS) ?_)
            refine HVC.out.mono ?_
            rw [ex_valid]
            rintro e w10 ⟨rfl, hx10⟩
            have HX13 := Lib.hid (HX12.out.trans hx10)
            clear hx10
            simp only [fAgg]
            have hfld := fld0 0 0
            go_wp2_with fail
            go_ret
            exact ⟨rfl, HX13.out⟩
end Go.Proofs.YtbaahbpianingaaDoor
