import Derived.Test.YtbaahbpianingaaDoorDeck1
import Derived.RegionTactic
namespace Go.Proofs.YtbaahbpianingaaDoor
open Go Go.Proofs Go.RowKit
open Acc (Dk red five)
set_option maxHeartbeats 4000000
set_option maxRecDepth 100000
def writeD (l : List Int) : List Int × (Int × Int) := if faultW l = (0, 0) then (Acc.deckText l, (0, 0)) else ([], faultW l)
def WRet (w : World) (r : List Int × (Int × Int)) (e : Ending) (w' : World) : Prop := e = .returned (.tuple #[.string (strOfNums r.1), fAgg r.2]) ∧ Ext w w'
theorem wret {w w' : World} {a : ByteArray} {p : Int × Int} {l : List Int} (h : a = strOfNums l) (hx : Ext w w') : WRet w (l, p) (.returned (.tuple #[.string a, fAgg p])) w' := ⟨by rw [h], hx⟩
theorem ext_bcell {w w1 : World} (h : Ext w w1) : (∀ b o, b < w.heap.size → w1.cell? ⟨b, o, none⟩ = w.cell? ⟨b, o, none⟩) ∧ (∀ b o, b < w.heap.size → w1.frozen? ⟨b, o, none⟩ = w.frozen? ⟨b, o, none⟩) :=
  ⟨fun b o q => Below.cell (p := ⟨b, o, none⟩) h q, fun b o q => Below.frozen (p := ⟨b, o, none⟩) h q⟩
/-- A block of two numbers. -/
structure Blk2 (w : World) (g : Nat) (c i : Int) : Prop where
  c0 : w.cell? ⟨g, 0, none⟩ = some (.int .i64 c)
  c1 : w.cell? ⟨g, 1, none⟩ = some (.int .i64 i)
  f0 : w.frozen? ⟨g, 0, none⟩ = false
  f1 : w.frozen? ⟨g, 1, none⟩ = false
theorem Blk2.mk' {w : World} {g : Nat} {c i : Int} (h : w.heap[g]? = some (.cells #[.int .i64 c, .int .i64 i] 28 (0, 0))) : Blk2 w g c i :=
  ⟨blk_cell h 0, blk_cell h 1, blk_frozen h 0, blk_frozen h 1⟩
theorem results_tc {P : Program} {fn : Func} {u q : Tmp} {tq : TypeId} (h : fn.results = #[.tmp u, .cell q tq]) (tmps : Array Value) (w : World) (g' : Nat) (t' : TypeId) (cs' : Array Value) (fr' : Nat × Nat) (d' : TypeDesc)
    (hq : tmps.getD q undef = .pointer (some ⟨g', 0, none⟩)) (hg' : w.heap[g']? = some (.cells cs' t' fr')) (hu' : P.underlying tq = some d') (hd' : (match d' with | .struct _ | .array _ _ => true | _ => false) = true) (hi' : (P.info? tq).map (·.size) = some cs'.size) :
    (results fn tmps).run P w = .ok (.tuple #[tmps.getD u undef, .agg cs']) w := by
  have hq' : tmps[q]?.getD undef = .pointer (some ⟨g', 0, none⟩) := by simpa using hq
  simp [results, h, hq', asAddr, run_loadVar_row w g' t' tq cs' fr' d' hg' hu' hd' hi']
theorem fblk_set {w1 : World} {g : Nat} {c i c' i' : Int} (h : w1.heap[g]? = some (.cells #[.int .i64 c', .int .i64 i'] 28 (0, 0))) : ((w1.setCell ⟨g, 0, none⟩ (.int .i64 c)).setCell ⟨g, 1, none⟩ (.int .i64 i)).heap[g]? = some (.cells #[.int .i64 c, .int .i64 i] 28 (0, 0)) :=
  heap_set_self (heap_set_self h 0 _) 1 _
theorem fblk_fin {w1 : World} {g : Nat} {c i c' i' : Int} (h : w1.heap[g]? = some (.cells #[.int .i64 c', .int .i64 i'] 28 (0, 0))) (o : Obj) : (((w1.setCell ⟨g, 0, none⟩ (.int .i64 c)).setCell ⟨g, 1, none⟩ (.int .i64 i)).alloc o).heap[g]? = some (.cells #[.int .i64 c, .int .i64 i] 28 (0, 0)) := by
  rw [Below.heap_alloc _ _ _ (by have := (Array.getElem?_eq_some_iff.1 h).1; simpa using this)]
  exact fblk_set h
theorem ext_set2 {w w1 : World} (h : Ext w w1) {g : Nat} (hg : w.heap.size ≤ g) (u v : Value) : Ext w ((w1.setCell ⟨g, 0, none⟩ u).setCell ⟨g, 1, none⟩ v) :=
  Ext.setCell (p := ⟨g, 1, none⟩) (Ext.setCell (p := ⟨g, 0, none⟩) h hg u) hg v
theorem write_bad (A : Option Addr) (l : List Int) (c' : Nat) (w : World) (hl : l.length ≤ maxLen) (h1 : Sl w .i64 A l) (hf : faultW l ≠ (0, 0)) : Calls Tryd.prog 23 #[.slice A l.length c'] w (WRet w (writeD l)) := by
  have he : writeD l = ([], faultW l) := by unfold writeD; rw [if_neg hf]
  rw [he]
  have HC := Lib.hid (fun (W : World) (hx : Ext w W) => checkWords_c A l c' W hl (h1.ext hx))
  obtain ⟨p, hp⟩ : ∃ p, faultW l = p := ⟨_, rfl⟩
  obtain ⟨c, i⟩ := p
  have q1 := faultW_ne hp hf
  have q2 : ¬ c = 0 := by simpa using q1
  rw [hp] at HC ⊢
  clear hp he hf h1
  go_enter Tryd.func23, Tryd.ntmps23
  go_wp2_with fail
  refine (HC.out _ ((Ext.refl w).alloc _)).mono ?_
  rintro e w1 ⟨rfl, hx1⟩
  have HX := Lib.hid (((Ext.refl w).alloc (.cells #[.int .i64 0, .int .i64 0] 28)).trans hx1)
  have HBK := Lib.hid (ext_heap hx1 (heap_alloc_new w (.cells #[.int .i64 0, .int .i64 0] 28)))
  have hb := Blk2.mk' HBK.out
  obtain ⟨c0, c1, f0, f1⟩ := hb
  have hlt : w.heap.size < w1.heap.size := by have := hx1.size; simp at this; omega
  clear hx1
  simp only [fAgg]
  go_wp2
  go_region
  go_wp2
  refine bodyPost_ret (results_tc Tryd.results23 _ _ w.heap.size 28 #[.int .i64 c, .int .i64 i] (0, 0) _ rfl (fblk_fin HBK.out _) Tryd.underlying28 rfl sizeF) rfl (wret rfl (Ext.drew (Ext.alloc (ext_set2 HX.out (Nat.le_refl _) _ _) _)))
theorem deck_snoc {l : List Int} {k : Nat} {x : Int} (h : l[k]? = some x) : Acc.deckGo 0 (l.take (k + 1)) = Acc.deckGo 0 (l.take k) ++ (if x = 0 then [] else Acc.cardF k x) := by
  have hk := (List.getElem?_eq_some_iff.1 h).1
  rw [List.take_add_one, h, Option.toList_some, Acc.deckGo_append, List.length_take, Nat.min_eq_left (by omega), Nat.zero_add, Acc.deckGo, Acc.deckGo, List.append_nil]
theorem deck_len {l : List Int} {k : Nat} (hk : k ≤ 100) (hl : l.length ≤ 100) (h : ∀ x ∈ l, five x = true) : (strOfNums (Acc.deckGo 0 (l.take k))).size ≤ 10 * k := by
  rw [strOfNums_size]
  have := Acc.deckGo_len (l.take k) 0 (by rw [List.length_take]; omega) (fun v hv => h v (List.mem_of_mem_take hv))
  rw [List.length_take] at this
  omega
theorem write_good (A : Option Addr) (l : List Int) (c' : Nat) (w : World) (hl : l.length ≤ maxLen) (h1 : Sl w .i64 A l) (hf : faultW l = (0, 0)) (ht : Tabs w) (h8 : 2 ≤ w.heap.size) : Calls Tryd.prog 23 #[.slice A l.length c'] w (WRet w (writeD l)) := by
  have he : writeD l = (Acc.deckText l, (0, 0)) := by unfold writeD; rw [if_pos hf]
  rw [he]
  have HC := Lib.hid (fun (W : World) (hx : Ext w W) => hf ▸ checkWords_c A l c' W hl (h1.ext hx))
  have hl100 : l.length ≤ 100 ∧ ∀ x ∈ l, five x = true := by
    unfold faultW at hf
    split at hf
    · cases hf
    · split at hf
      · cases hf
      · exact ⟨by omega, badI_fine (by omega)⟩
  have HW5 := Lib.hid hl100.2
  have hln := hl100.1
  have HH1 := Lib.hid h1
  have HT := Lib.hid ht
  clear hf he h1 hl100 ht
  obtain ⟨n, hn⟩ : ∃ n, l.length = n := ⟨_, rfl⟩
  have HN := Lib.hid hn
  rw [hn] at hln HC ⊢
  clear hn hl
  go_enter Tryd.func23, Tryd.ntmps23
  go_wp2_with fail
  refine (HC.out _ ((Ext.refl w).alloc _)).mono ?_
  rintro e w1 ⟨rfl, hx1⟩
  have HX := Lib.hid (((Ext.refl w).alloc (.cells #[.int .i64 0, .int .i64 0] 28)).trans hx1)
  have HBK := Lib.hid (ext_heap hx1 (heap_alloc_new w (.cells #[.int .i64 0, .int .i64 0] 28)))
  have hlt : w.heap.size < w1.heap.size := by have := hx1.size; simp at this; omega
  clear hx1
  simp only [fAgg]
  go_wp2
  go_loopw [5, 16] (fun t5 t16 wx => ∃ k : Nat, ∃ b, k ≤ n ∧ t16 = .int .i64 k ∧ t5 = .string b ∧ Hid (b = strOfNums (Acc.deckGo 0 (l.take k))) ∧ b.size ≤ 1000 ∧ Ext w1 wx) (fun _ t16 _ => n - (intOf t16).toNat)
  case atStart => exact ⟨0, _, Nat.zero_le _, rfl, rfl, Lib.hid rfl, by decide, (Ext.refl w1).alloc _⟩
  case round =>
    obtain ⟨k, b, hk, rfl, rfl, hb, hbs, hx⟩ := hrel
    have HXR := Lib.hid hx
    have hltr : w.heap.size < wr.heap.size := by have := hx.size; omega
    have HHB := Lib.hid hb.out
    have HBS := Lib.hid hbs
    clear hx hb
    by_cases hlt2 : k < n
    · obtain ⟨bb, o, x, rfl, hx, ha⟩ := (HH1.out.ext (HX.out.trans HXR.out)).at2 (i := k) (by rw [HN.out]; exact hlt2)
      have HSN := Lib.hid (deck_snoc hx.out)
      have HDL := Lib.hid (deck_len (l := l) (k := k + 1) (by omega) (by rw [HN.out]; exact hln) HW5.out)
      have hx5 := HW5.out x (List.mem_of_getElem? hx.out)
      by_cases hx0 : x = 0
      · subst hx0
        go_wp2
        go_roundw
        case rel =>
          refine ⟨k + 1, _, by omega, by go_num, rfl, Lib.hid ?_, HBS.out, HXR.out⟩
          rw [HHB.out, HSN.out, if_pos rfl, List.append_nil]
        case measure => simp [intOf]; omega
      · have hq : (x != 0) = true := by simpa using hx0
        have HCA := Lib.hid (card_c k x wr (by omega) hx5 (HT.out.below (HX.out.trans HXR.out) h8) (by omega))
        have HX0 := Lib.hid hx0
        clear hx0 hx5
        go_wp2_with fail
        refine HCA.out.mono ?_
        rintro e w2 ⟨rfl, hx2⟩
        have HX2 := Lib.hid (HXR.out.trans hx2)
        clear hx2
        have HEQ : Hid (b ++ strOfNums (Acc.cardF k x) = strOfNums (Acc.deckGo 0 (l.take (k + 1)))) := Lib.hid (by rw [HHB.out, HSN.out, if_neg HX0.out, strOfNums_append])
        have hcs : (strOfNums (Acc.cardF k x)).size ≤ 10 := by rw [strOfNums_size]; exact Nat.le_of_eq (Acc.card_len (by omega) (by have := Acc.five_iff.1 (HW5.out x (List.mem_of_getElem? hx.out)); omega))
        generalize strOfNums (Acc.cardF k x) = C at *
        go_wp2_with fail
        go_roundw
        case rel =>
          refine ⟨k + 1, _, by omega, by go_num, rfl, Lib.hid HEQ.out, ?_, HX2.out⟩
          rw [HEQ.out]
          have := HDL.out
          omega
        case measure => simp [intOf]; omega
    · have hke : k = n := by omega
      have HFT : Hid (b = strOfNums (Acc.deckText l)) := Lib.hid (by rw [HHB.out, hke, ← HN.out, List.take_length]; rfl)
      have HBR := Lib.hid (ext_heap HXR.out HBK.out)
      have hb := Blk2.mk' HBR.out
      obtain ⟨c0, c1, f0, f1⟩ := hb
      clear hke
      go_wp2
      refine bodyPost_ret (results_tc Tryd.results23 _ _ w.heap.size 28 #[.int .i64 0, .int .i64 0] (0, 0) _ rfl (fblk_set HBR.out) Tryd.underlying28 rfl sizeF) rfl (wret HFT.out (ext_set2 (HX.out.trans HXR.out) (Nat.le_refl _) _ _))
theorem write_all (A : Option Addr) (l : List Int) (c' : Nat) (w : World) (hl : l.length ≤ maxLen) (h1 : Sl w .i64 A l) (ht : Tabs w) (h8 : 2 ≤ w.heap.size) : Calls Tryd.prog 23 #[.slice A l.length c'] w (WRet w (writeD l)) := by
  by_cases hf : faultW l = (0, 0)
  · exact write_good A l c' w hl h1 hf ht h8
  · exact write_bad A l c' w hl h1 hf
end Go.Proofs.YtbaahbpianingaaDoor
