import Derived.Test.YtnijfndpefkoeaaRnK
import Derived.Test.YtnijfndpefkoeaaRnM
import Derived.Test.YtnijfndpefkoeaaRenP
namespace Go.Proofs.Ytnijfndpefkoeaa
open Go Go.Proofs Go.RowKit
open Ren (E lessE atE swapE UpAt DnAt DnIs Heap Qs YAt YIn YPush pyOf planF begL)
set_option maxHeartbeats 6400000
set_option maxRecDepth 100000
def begTo (ws : List (Int × Int)) (i : Nat) (y : Int) : List E := ((List.range i).filter fun j => decide (Ren.A ws j = y)).map fun j => (Ren.B ws j, (j : Int))
theorem begTo_succ (ws : List (Int × Int)) (i : Nat) (y : Int) : begTo ws (i + 1) y = if Ren.A ws i = y then begTo ws i y ++ [(Ren.B ws i, (i : Int))] else begTo ws i y := by
  unfold begTo
  rw [List.range_succ, List.filter_append, List.map_append]
  by_cases h : Ren.A ws i = y
  · rw [if_pos h, List.filter_cons_of_pos (by simpa using h)]; rfl
  · rw [if_neg h, List.filter_cons_of_neg (by simpa using h)]; simp
theorem begTo_all (ws : List (Int × Int)) (y : Int) : begTo ws ws.length y = (begL ws y).map fun j => (Ren.B ws j, (j : Int)) := rfl
def nilV (o : Option Value) : Value := o.getD (.slice none 0 0)
/-- The media by the first years of their windows. -/
structure BegIs (W : World) (base gB : Nat) (ws : List (Int × Int)) (i : Nat) (val : Int → Option Value) : Prop where
  map : MapAt W gB val
  own : ∀ y, W.ownsRow base 70 2 (nilV (val y)) (begTo ws i y).length (prsV (begTo ws i y))
  apart : ∀ y z g, y ≠ z → (nilV (val y)).ownBlock = some g → (nilV (val z)).ownBlock ≠ some g
  lt : gB < base
theorem BegIs.ext {W W2 : World} {base gB : Nat} {ws : List (Int × Int)} {i : Nat} {val : Int → Option Value} (h : BegIs W base gB ws i val) (x : Ext W W2) : BegIs W2 base gB ws i val :=
  ⟨h.map.keep (x.block gB h.map.lt), fun y => town_ext (h.own y) x, h.apart, h.lt⟩
theorem beg_zero (w : World) (ws : List (Int × Int)) : BegIs (w.alloc (.map #[] 0)) (w.heap.size + 1) w.heap.size ws 0 (fun _ => none) :=
  ⟨map_new w, fun _ => ⟨rfl, .inl ⟨rfl, rfl⟩⟩, fun _ _ _ _ h => by simp [nilV, Value.ownBlock] at h, Nat.lt_succ_self _⟩
section
variable {W W2 W3 : World} {base gB i : Nat} {ws : List (Int × Int)} {val : Int → Option Value} {y0 : Int} {v' : Value}
theorem beg_map2 (h : BegIs W base gB ws i val) (hg : W.grownBy W2 (nilV (val y0)).ownBlock) : MapAt W2 gB val :=
  h.map.keep (hg.block gB h.map.lt (fun q => by have := (own_lt (h.own y0) q.symm).1; have := h.lt; omega))
theorem beg_next (h : BegIs W base gB ws i val) (hy : Ren.A ws i = y0) (ho : W2.ownsRow base 70 2 v' ((begTo ws i y0).length + 1) (prsV (begTo ws i y0) ++ prV (Ren.B ws i, (i : Int)))) (hg : W.grownBy W2 (nilV (val y0)).ownBlock)
    (ha : v'.ownBlock = (nilV (val y0)).ownBlock ∨ v'.ownBlock = some W.heap.size) (hm : MapTo W2 W3 gB val y0 v') : BegIs W3 base gB ws (i + 1) (fun z => if z = y0 then some v' else val z) := by
  have hl := h.lt
  have up : ∀ {v : Value} {n : Nat} {xs : List Value}, W2.ownsRow base 70 2 v n xs → W3.ownsRow base 70 2 v n xs := fun ho2 => own_keep ho2 fun k hk => by
    have := own_lt ho2 hk
    exact hm.grown.block k this.2 (fun q => by injection q with q; omega)
  refine ⟨hm.at_, fun y => ?_, fun y z g hne h1 => ?_, hl⟩
  · by_cases e : y = y0
    · subst e
      rw [if_pos rfl, begTo_succ, if_pos hy, List.length_append, prsV_snoc]
      exact up ho
    · rw [if_neg e, begTo_succ, if_neg (fun q => e (by rw [← q, hy]))]
      exact up (own_keep (h.own y) fun k hk => hg.block k (own_lt (h.own y) hk).2 (fun q => h.apart y y0 k e hk q.symm))
  · by_cases e : y = y0
    · subst e
      rw [if_pos rfl] at h1
      rw [if_neg (fun q => hne q.symm)]
      rcases ha with q | q
      · exact h.apart _ z g hne (by rw [← q]; exact h1)
      · intro r
        have := (own_lt (h.own z) r).2
        have h1' : v'.ownBlock = some g := h1
        rw [q] at h1'
        injection h1' with h1'
        omega
    · rw [if_neg e] at h1
      by_cases e2 : z = y0
      · subst e2
        rw [if_pos rfl]
        show v'.ownBlock ≠ some g
        rcases ha with q | q
        · rw [q]; exact h.apart y z g hne h1
        · rw [q]
          intro r
          injection r with r
          have := (own_lt (h.own y) h1).2
          omega
      · rw [if_neg e2]
        exact h.apart y z g hne h1
end
/-- A medium more has been entered. -/
theorem fill_next {w W W2 W3 : World} {gY gB i : Nat} {ws : List (Int × Int)} {val : Int → Option Value} {y0 : Int} {v' : Value} {cy : Array Value} (hx : Ext w W) (hyb : gB = gY + 1) (hw : w.heap.size ≤ gY) (hY : W.heap[gY]? = some (.cells cy 3 (0, 0)))
    (h : BegIs W (gB + 1) gB ws i val) (hy : Ren.A ws i = y0) (ho : W2.ownsRow (gB + 1) 70 2 v' ((begTo ws i y0).length + 1) (prsV (begTo ws i y0) ++ prV (Ren.B ws i, (i : Int)))) (hg : W.grownBy W2 (nilV (val y0)).ownBlock)
    (ha : v'.ownBlock = (nilV (val y0)).ownBlock ∨ v'.ownBlock = some W.heap.size) (hm : MapTo W2 W3 gB val y0 v') :
    BegIs W3 (gB + 1) gB ws (i + 1) (fun z => if z = y0 then some v' else val z) ∧ W3.heap[gY]? = some (.cells cy 3 (0, 0)) ∧ Ext w W3 := by
  have hlt := (Array.getElem?_eq_some_iff.1 hY).1
  have hol : ∀ g, (nilV (val y0)).ownBlock = some g → gB + 1 ≤ g := fun g hg => (own_lt (h.own y0) hg).1
  have hY2 : W2.heap[gY]? = some (.cells cy 3 (0, 0)) := by
    rw [hg.block gY hlt (fun q => by have := hol gY q.symm; omega)]
    exact hY
  refine ⟨beg_next h hy ho hg ha hm, ?_, ext_grown (ext_grown hx hg (fun g q => by have := hol g q; omega)) hm.grown (fun g q => by injection q with q; omega)⟩
  rw [hm.grown.block gY (Array.getElem?_eq_some_iff.1 hY2).1 (fun q => by injection q with q; omega)]
  exact hY2
theorem pigeon : ∀ (n : Nat) (l : List Nat), l.Nodup → (∀ x ∈ l, x < n) → l.length ≤ n
  | 0, [], _, _ => Nat.le_refl _
  | 0, x :: l, _, h => absurd (h x (by simp)) (by omega)
  | n + 1, l, hd, h => by
    by_cases hm : n ∈ l
    · have h1 := pigeon n (l.erase n) (hd.erase n) (fun x hx => by
        have h2 := (hd.mem_erase_iff).1 hx
        have := h x h2.2
        have := h2.1
        omega)
      rw [List.length_erase_of_mem hm] at h1
      omega
    · have h1 := pigeon n l hd (fun x hx => by
        have := h x hx
        have : x ≠ n := fun q => hm (by rw [← q]; exact hx)
        omega)
      omega
theorem qs_len {ws : List (Int × Int)} {f : Nat → Bool} {q : List E} (h : Qs ws f q) : q.length ≤ ws.length := by
  have h1 := pigeon ws.length (q.map fun e => e.2.toNat) (by
    unfold List.Nodup
    rw [List.pairwise_map]
    refine h.nodup.imp_of_mem (fun {a b} ha hb hne => ?_)
    obtain ⟨i, _, _, ea⟩ := (h.mem a).1 ha
    obtain ⟨j, _, _, eb⟩ := (h.mem b).1 hb
    intro q
    apply hne
    rw [ea, eb] at q ⊢
    simp only [Int.toNat_natCast] at q
    rw [q]) (fun x hx => by
    obtain ⟨e, he, rfl⟩ := List.mem_map.1 hx
    obtain ⟨i, hi, _, ea⟩ := (h.mem e).1 he
    rw [ea]
    simpa using hi)
  rwa [List.length_map] at h1
theorem QIs.keep {W W2 : World} {B : Nat} {q : List E} (h : QIs W B q) (hk : ∀ g, B - 1 ≤ g → W2.heap[g]? = W.heap[g]?) : QIs W2 B q := by
  obtain ⟨v, h1, h2, h3⟩ := h
  exact ⟨v, by rw [hk B (by omega)]; exact h1, own_keep h2 fun g hg => hk g (own_lt h2 hg).1, h3⟩
/-- What holds while the years go by: w3 is the world behind the first loop. -/
structure PlIs (w w3 wx : World) (gY : Nat) (py : List Int) (q : List E) : Prop where
  keep : ∀ g, g < w3.heap.size → g ≠ gY → wx.heap[g]? = w3.heap[g]?
  yb : wx.heap[gY]? = some (.cells (py.map (Value.int .i64)).toArray 3 (0, 0))
  q : QIs wx (w3.heap.size + 1) q
  x : Ext w wx
  y0 : w.heap.size ≤ gY
  y1 : gY < w3.heap.size
section
variable {w w3 wx W : World} {gY : Nat} {py : List Int} {q : List E}
theorem PlIs.size (h : PlIs w w3 wx gY py q) : w3.heap.size + 1 < wx.heap.size := qis_ge h.q
theorem PlIs.ext (h : PlIs w w3 wx gY py q) (e : Ext wx W) : PlIs w w3 W gY py q := by
  have hs := h.size
  exact ⟨fun g hg hne => (e.block g (by omega)).trans (h.keep g hg hne), ext_heap e h.yb, h.q.ext e, h.x.trans e, h.y0, h.y1⟩
theorem PlIs.heap (h : PlIs w w3 wx gY py q) {q2 : List E} (hb : Below w3.heap.size wx W) (hq : QIs W (w3.heap.size + 1) q2) : PlIs w w3 W gY py q2 := by
  have h0 := h.y0
  have h1 := h.y1
  exact ⟨fun g hg hne => (hb.block g (by omega)).trans (h.keep g hg hne), (hb.block gY (by omega)).trans h.yb, hq, Below.trans h.x (Below.mono hb (by omega)), h.y0, h.y1⟩
theorem PlIs.year (h : PlIs w w3 wx gY py q) (k : Nat) (y : Int) : PlIs w w3 (wx.setCell ⟨gY, k, none⟩ (.int .i64 y)) gY (py.set k y) q := by
  have h0 := h.y0
  have h1 := h.y1
  refine ⟨fun g hg hne => (Below.heap_setCell _ _ _ _ hne).trans (h.keep g hg hne), ?_, h.q.keep (fun g hg => Below.heap_setCell _ _ _ _ (by show g ≠ gY; omega)), h.x.setCell (p := ⟨gY, k, none⟩) h.y0 _, h.y0, h.y1⟩
  have h2 := heap_set_self h.yb k (.int .i64 y)
  have e : ((py.map (Value.int .i64)).toArray.setIfInBounds k (.int .i64 y)) = ((py.set k y).map (Value.int .i64)).toArray := by
    rw [List.setIfInBounds_toArray, List.map_set]
  rw [e] at h2
  exact h2
theorem PlIs.map (h : PlIs w w3 wx gY py q) {gB : Nat} {val : Int → Option Value} (hm : MapAt w3 gB val) (hne : gB ≠ gY) : MapAt wx gB val := hm.keep (h.keep gB hm.lt hne)
theorem PlIs.row (h : PlIs w w3 wx gY py q) {base n : Nat} {v : Value} {xs : List Value} (ho : w3.ownsRow base 70 2 v n xs) (hb : gY < base) : ∃ A c, v = .slice A n c ∧ n ≤ c ∧ c ≤ maxLen ∧ SlC wx A xs := by
  have h2 := own_keep (w' := wx) ho fun g hg => h.keep g (own_lt ho hg).2 (by have := (own_lt ho hg).1; omega)
  obtain ⟨A, c, hv, a, b, _, d⟩ := own_sl5 h2
  exact ⟨A, c, hv, a, b, d⟩
end
theorem PlIs.row2 {w w3 wx : World} {gY : Nat} {py : List Int} {q : List E} (h : PlIs w w3 wx gY py q) {base n c : Nat} {A : Option Addr} {v : Value} {xs : List Value} (ho : w3.ownsRow base 70 2 v n xs) (hb : gY < base) (hv : v = .slice A n c) : SlC wx A xs := by
  obtain ⟨A', c', e, _, _, hs⟩ := h.row ho hb
  rw [hv] at e
  injection e with e _ _
  rw [e]
  exact hs
def zeroRow (n : Nat) : Array Value := (List.replicate n (Value.int .i64 0)).toArray
theorem make_runT (w : World) (n : Nat) (h : n ≤ 1000000) : (Instr.makeSlice 29 (.int .i64 (n : Int)) (.int .i64 (n : Int))).run Try.prog w = .ok (.slice (some ⟨w.heap.size, 0, none⟩) n n) (w.alloc (.cells (zeroRow n) 3)) := by
  obtain ⟨i0, hi, hz0, hz1, hz2⟩ := info_parts infoI
  have := run_make (P := Try.prog) w 29 3 i0 (.int .i64 0) Try.underlying29 hi hz0 .i64 .i64 n n (by omega) (by omega) (by rw [hz2]; omega) (by omega)
  rw [hz1] at this
  simp only [Int.toNat_natCast, Nat.mul_one] at this
  have hc : madeCells (Value.int .i64 0).cells n = zeroRow n := by
    apply Array.toList_inj.1
    exact toList_madeCells_one _ n
  rw [hc] at this
  exact this
theorem zero_py (n : Nat) : zeroRow n = ((pyOf (List.replicate n (-1))).map (Value.int .i64)).toArray := by
  rw [← Ren.py_rep, List.map_replicate]
  rfl
theorem run_buildQ (w : World) : (Instr.buildSlice 72 0 #[]).run Try.prog w = .ok (.slice (some ⟨w.heap.size, 0, none⟩) 0 0) (w.alloc (.cells #[] 70)) := by kernel_rfl
theorem pl_start {w W : World} {gY n : Nat} (hx : Ext w W) (hy : W.heap[gY]? = some (.cells (zeroRow n) 3 (0, 0))) (hw : w.heap.size ≤ gY) :
    PlIs w W ((W.alloc (.cells #[] 70)).alloc (.cells #[.slice (some ⟨W.heap.size, 0, none⟩) 0 0] 72)) gY (pyOf (List.replicate n (-1))) [] := by
  have hlt := (Array.getElem?_eq_some_iff.1 hy).1
  have X : Ext W ((W.alloc (.cells #[] 70)).alloc (.cells #[.slice (some ⟨W.heap.size, 0, none⟩) 0 0] 72)) := ((Ext.refl W).alloc _).alloc _
  refine ⟨fun g hg _ => X.block g hg, by rw [← zero_py]; exact ext_heap X hy, ⟨_, heap_alloc2_new W _ _, ⟨rfl, .inr ⟨W.heap.size, 0, #[], rfl, by omega, heap_alloc2_old W _ _, Nat.le_refl _, by unfold maxLen; omega, rfl, rfl⟩⟩, fun q => by simp [Value.ownBlock] at q⟩, hx.trans X, hw, hlt⟩
theorem beg_get {ws : List (Int × Int)} {y : Int} {k j : Nat} (h : (begL ws y)[k]? = some j) : (begTo ws ws.length y)[k]? = some (Ren.B ws j, (j : Int)) := by
  rw [begTo_all, List.getElem?_map, h]
  rfl
theorem beg_len (ws : List (Int × Int)) (y : Int) : (begTo ws ws.length y).length = (begL ws y).length := by rw [begTo_all, List.length_map]
end Go.Proofs.Ytnijfndpefkoeaa
