import Derived.Test.YtnijfndpefkoeaaRnJ
import Derived.Test.YtnijfndpefkoeaaRnF
import Derived.Test.YtnijfndpefkoeaaRenC
namespace Go.Proofs.Ytnijfndpefkoeaa
open Go Go.Proofs Go.RowKit
set_option maxHeartbeats 6400000
set_option maxRecDepth 100000
theorem ins_get {cs : List Value} {u : Value} {p : Nat} (hp : p ≤ cs.length) (k : Nat) : (cs.take p ++ u :: cs.drop p)[k]? = if k = p then some u else if k < p then cs[k]? else cs[k - 1]? := by
  have hl : (cs.take p).length = p := by simp; omega
  by_cases h1 : k = p
  · rw [if_pos h1, h1, List.getElem?_append_right (by omega), hl, Nat.sub_self]; rfl
  · rw [if_neg h1]
    by_cases h2 : k < p
    · rw [if_pos h2, List.getElem?_append_left (by omega), List.getElem?_take, if_pos h2]
    · rw [if_neg h2, List.getElem?_append_right (by omega), hl]
      obtain ⟨j, rfl⟩ : ∃ j, k = p + (j + 1) := ⟨k - p - 1, by omega⟩
      rw [show p + (j + 1) - p = j + 1 by omega, List.getElem?_cons_succ, List.getElem?_drop]
      rfl
theorem own_of_get {w : World} {B g cap : Nat} {c2 : Array Value} {ys : List Value} (hb : B ≤ g) (k1 : w.heap[g]? = some (.cells c2 3 (0, 0))) (hn : ys.length ≤ cap) (hm : cap ≤ maxLen) (hc : c2.size = cap)
    (hs : ∀ k, k < ys.length → c2[k]? = ys[k]?) : w.ownsRow B 3 1 (.slice (some ⟨g, 0, none⟩) ys.length cap) ys.length ys := by
  refine ⟨by simp, .inr ⟨g, cap, c2, rfl, hb, k1, hn, hm, by rw [hc, Nat.mul_one], ?_⟩⟩
  apply List.ext_getElem?
  intro k
  rw [List.getElem?_take, Nat.mul_one]
  by_cases hk : k < ys.length
  · rw [if_pos hk, Array.getElem?_toList]
    exact hs k hk
  · rw [if_neg hk, List.getElem?_eq_none (by omega)]
theorem ins_len2 {cs : List Value} {u : Value} {p : Nat} : (cs.take p ++ u :: cs.drop p).length = cs.length + 1 := by simp; omega
/-- A number is put into a row, in its place. -/
theorem own_mid {w : World} {B g cap p : Nat} {cur : Array Value} {cs : List Value} {u : Value} (hb : B ≤ g) (hg : w.heap[g]? = some (.cells cur 3 (0, 0))) (hn : cs.length + 1 ≤ cap) (hm : cap ≤ maxLen) (hc : cur.size = cap) (hp : p ≤ cs.length)
    (hcur : ∀ k, k < p → cur[k]? = cs[k]?) :
    ((w.setCells g (p + 1) (cs.drop p)).setCells g p [u]).ownsRow B 3 1 (.slice (some ⟨g, 0, none⟩) (cs.length + 1) cap) (cs.length + 1) (cs.take p ++ u :: cs.drop p) := by
  obtain ⟨c1, h1, h2, h3⟩ := heap_setCells (cs.drop p) (p + 1) w cur hg
  obtain ⟨c2, k1, k2, k3⟩ := heap_setCells [u] p (w.setCells g (p + 1) (cs.drop p)) c1 h1
  have key := own_of_get (ys := cs.take p ++ u :: cs.drop p) hb k1 (by rw [ins_len2]; exact hn) hm (by rw [k2, h2, hc]) (fun k hk => by
    rw [ins_len2] at hk
    rw [ins_get hp, k3 k (by omega), h3 k (by omega)]
    by_cases q1 : k = p
    · rw [if_pos ⟨by omega, by simp; omega⟩, if_pos q1, q1, Nat.sub_self]; rfl
    · rw [if_neg (fun q => by have := q.2; simp at this; omega), if_neg q1]
      by_cases q2 : k < p
      · rw [if_neg (by omega), if_pos q2, hcur k q2]
      · rw [if_pos ⟨by omega, by simp; omega⟩, if_neg q2, List.getElem?_drop]
        congr 1; omega)
  rw [ins_len2] at key
  exact key
/-- .. and new. -/
theorem own_mid2 {w : World} {B g cap p : Nat} {cur : Array Value} {cs : List Value} {u : Value} (hb : B ≤ g) (hg : w.heap[g]? = some (.cells cur 3 (0, 0))) (hn : cs.length + 1 ≤ cap) (hm : cap ≤ maxLen) (hc : cur.size = cap) (hp : p ≤ cs.length)
    (hcur : ∀ k, k < p → cur[k]? = cs[k]?) :
    ((w.setCells g p [u]).drew.setCells g (p + 1) (cs.drop p)).ownsRow B 3 1 (.slice (some ⟨g, 0, none⟩) (cs.length + 1) cap) (cs.length + 1) (cs.take p ++ u :: cs.drop p) := by
  obtain ⟨c1, h1, h2, h3⟩ := heap_setCells [u] p w cur hg
  obtain ⟨c2, k1, k2, k3⟩ := heap_setCells (cs.drop p) (p + 1) (w.setCells g p [u]).drew c1 h1
  have key := own_of_get (ys := cs.take p ++ u :: cs.drop p) hb k1 (by rw [ins_len2]; exact hn) hm (by rw [k2, h2, hc]) (fun k hk => by
    rw [ins_len2] at hk
    rw [ins_get hp, k3 k (by omega), h3 k (by omega)]
    by_cases q1 : k = p
    · rw [if_neg (by omega), if_pos ⟨by omega, by simp; omega⟩, if_pos q1, q1, Nat.sub_self]; rfl
    · rw [if_neg q1]
      by_cases q2 : k < p
      · rw [if_neg (by omega), if_neg (fun q => by have := q.1; omega), if_pos q2, hcur k q2]
      · rw [if_pos ⟨by omega, by simp; omega⟩, if_neg q2, List.getElem?_drop]
        congr 1; omega)
  rw [ins_len2] at key
  exact key
def InsRet (w : World) (B : Nat) (vc : Value) (ys : List Value) (e : Ending) (w' : World) : Prop := ∃ v', e = .returned v' ∧ RowTo w w' B 3 vc v' ys.length ys
theorem insC_c (B : Nat) (vc : Value) (cs : List Value) (h1c : ∀ v ∈ cs, v.oneCell' = true) (x : Int) (p : Nat) (hp : p ≤ cs.length) (w : World) (hown : w.ownsRow B 3 1 vc cs.length cs) (h2 : cs.length ≤ 2000) (vb : Nat) (hvb : w.heap[vb]? = some (.cells #[.int .i64 x] 3 (0, 0))) (hne : vc.ownBlock ≠ some vb) (hB : B ≤ w.heap.size) :
    Calls Try.prog 30 #[vc, .int .i64 p, .slice (some ⟨vb, 0, none⟩) 1 1] w (InsRet w B vc (cs.take p ++ .int .i64 x :: cs.drop p)) := by
  have hvs : ∀ (j : Nat) v, ([.int .i64 x] : List Value)[j]? = some v → w.cell? ⟨vb, 0 + j, none⟩ = some v := fun j v hv => by
    rw [blk_cell hvb (0 + j), Nat.zero_add, List.getElem?_toArray]; exact hv
  have h1v : ∀ v ∈ ([.int .i64 x] : List Value), v.oneCell' = true := by intro v hv; rw [List.mem_singleton.1 hv]; rfl
  have fin : ∀ {v' w'}, w'.ownsRow B 3 1 v' (cs.length + 1) (cs.take p ++ .int .i64 x :: cs.drop p) → w.grownBy w' vc.ownBlock → (v'.ownBlock = vc.ownBlock ∨ ∃ g, v'.ownBlock = some g ∧ w.heap.size ≤ g) → InsRet w B vc (cs.take p ++ .int .i64 x :: cs.drop p) (.returned v') w' := fun {v' w'} a b c => ⟨v', rfl, by rw [ins_len2]; exact a, b, c⟩
  have GN : ∀ o, w.grownBy (w.drew.alloc o) vc.ownBlock := fun o => ⟨rfl, rfl, rfl, by show w.heap.size ≤ (w.drew.alloc o).heap.size; simp, fun k hk _ => Below.block ((Below.refl w.heap.size w).drew.alloc (Nat.le_refl _) o) k hk⟩
  rcases hown.2 with ⟨rfl, h0⟩ | ⟨g, cap, cur, rfl, hb, hg, hn, hm, hc, ht⟩
  · have e0 : cs = [] := List.eq_nil_of_length_eq_zero h0
    subst e0
    have hp0 : p = 0 := by simpa using hp
    subst hp0
    have key := Any2.slices_Insert_int_end_grow laysIns none 0 0 vb 0 1 1 [] [.int .i64 x] w (by omega) (by omega) (by omega) (by omega) rfl rfl (fun _ => rfl) (fun a ha => by cases ha) hvs h1v
    refine key.mono fun e w' ⟨he, hw⟩ => ?_
    subst hw he
    have hge := grownCap_ge w (0 + 1) 0 3
    have hle := grownCap_le_maxLen w (0 + 1) 0 3 (by unfold maxLen; omega)
    refine fin ?_ (GN _) (.inr ⟨w.heap.size, rfl, Nat.le_refl _⟩)
    have := own_of_get (ys := [.int .i64 x]) (w := w.drew.alloc (.cells (([] ++ [Value.int .i64 x] : List Value).toArray ++ Builtin.zeroCells (Value.int .i64 0).cells (grownCap w (0 + 1) 0 3 - (0 + 1))) 3)) (g := w.heap.size) (cap := grownCap w (0 + 1) 0 3) hB (heap_alloc_new w.drew _) hge hle (by rw [Array.size_append, zeroCells_size]; simp only [List.size_toArray, List.length_append, List.length_nil, List.length_cons]; omega) (fun k hk => by
      have : k = 0 := by simpa using hk
      subst this
      rw [Array.getElem?_append_left (by simp)]; rfl)
    exact this
  rw [Nat.mul_one] at hc
  rw [Nat.mul_one] at ht
  have hgv : vb ≠ g := fun q => hne (by rw [q]; rfl)
  have hcell : ∀ j v, cs[j]? = some v → w.cell? ⟨g, 0 + j, none⟩ = some v := fun j v hv => by
    have := hown.cells (g := g) rfl j v hv
    rw [add_off] at this
    exact this
  have hm' : cap ≤ 9223372036854775807 := hm
  have hfr : ∀ o, w.frozen? ⟨g, o, none⟩ = false := fun o => blk_frozen hg o
  have hcur : ∀ k, k < p → cur[k]? = cs[k]? := fun k hk => by
    rw [← ht, List.getElem?_take, if_pos (by omega), Array.getElem?_toList]
  by_cases hpe : p = cs.length
  · subst hpe
    by_cases hroom : cs.length + 1 ≤ cap
    · have key := Any2.slices_Insert_int_end_room laysIns g 0 cs.length cap vb 0 1 1 [.int .i64 x] w (by omega) hroom hm' rfl (fun j hj => by rw [blk_cell hg, Array.getElem?_eq_getElem (by omega)]; rfl) (fun j _ => hfr _) hvs h1v
      refine key.mono fun e w' ⟨he, hw⟩ => ?_
      subst hw he
      rw [Nat.zero_add]
      have ho := own_mid (w := w) (u := .int .i64 x) (p := cs.length) (cs := cs) hb hg hroom hm hc hp hcur
      rw [List.drop_length] at ho
      exact fin (by rw [List.drop_length]; exact ho) (grown_setCells _ _ _) (.inl rfl)
    · have key := Any2.slices_Insert_int_end_grow laysIns (some ⟨g, 0, none⟩) cs.length cap vb 0 1 1 cs [.int .i64 x] w (by omega) hn (by omega) (by omega) rfl rfl (fun h => by cases h) (fun a ha j v hv => by injection ha with ha; subst ha; rw [add_off]; exact hcell j v hv) hvs h1v
      refine key.mono fun e w' ⟨he, hw⟩ => ?_
      subst hw he
      have hge := grownCap_ge w (cs.length + 1) cap 3
      have hle := grownCap_le_maxLen w (cs.length + 1) cap 3 (by unfold maxLen; omega)
      refine fin ?_ (GN _) (.inr ⟨w.heap.size, rfl, Nat.le_refl _⟩)
      have := own_of_get (ys := cs ++ [.int .i64 x]) (w := w.drew.alloc (.cells ((cs ++ [Value.int .i64 x]).toArray ++ Builtin.zeroCells (Value.int .i64 0).cells (grownCap w (cs.length + 1) cap 3 - (cs.length + 1))) 3)) (g := w.heap.size) (cap := grownCap w (cs.length + 1) cap 3) hB (heap_alloc_new w.drew _) (by simpa using hge) hle (by rw [Array.size_append, zeroCells_size]; simp; omega) (fun k hk => by
        rw [Array.getElem?_append_left (by simpa using hk), List.getElem?_toArray])
      rw [List.drop_length, List.take_length]
      rw [List.length_append] at this
      exact this
  · by_cases hroom : cs.length + 1 ≤ cap
    · have key := Any2.slices_Insert_int_shift laysIns g 0 cs.length cap p vb 0 1 1 cs [.int .i64 x] w (by omega) (by omega) hroom hm' hgv rfl rfl hcell
        (fun j hj => by rw [blk_cell hg (0 + j), Array.getElem?_eq_getElem (by omega)]; rfl) (fun j _ => hfr _) hvs h1c h1v 3 3 1 cap
        (by unfold World.shape?; rw [hvb]; rfl) (by unfold World.shape?; rw [hg]; simp [hc]) (by omega) (blk_frozen hvb _) (blk_frozen hvb _)
      refine key.mono fun e w' ⟨he, hw⟩ => ?_
      subst hw he
      rw [Nat.zero_add, Nat.zero_add]
      exact fin (own_mid (w := w.drew) hb hg hroom hm hc hp hcur) (grown_trans (w1 := w.drew) ⟨rfl, rfl, rfl, Nat.le_refl _, fun _ _ _ => rfl⟩ (grown_trans (grown_setCells _ _ _) (grown_setCells _ _ _))) (.inl rfl)
    · have key := Any2.slices_Insert_int_grow laysIns g 0 cs.length cap p vb 0 1 1 cs [.int .i64 x] w (by omega) (by omega) hn (by omega) (by omega) rfl rfl hcell hvs h1c h1v
      refine key.mono fun e w' ⟨he, hw⟩ => ?_
      subst hw he
      have hge := grownCap_ge w (cs.length + 1) cap 3
      have hle := grownCap_le_maxLen w (cs.length + 1) cap 3 (by unfold maxLen; omega)
      have hsz : ((cs.take p).toArray ++ Builtin.zeroCells (Value.int .i64 0).cells (cs.length + 1 - p) ++ Builtin.zeroCells (Value.int .i64 0).cells (grownCap w (cs.length + 1) cap 3 - (cs.length + 1))).size = grownCap w (cs.length + 1) cap 3 := by
        rw [Array.size_append, Array.size_append, zeroCells_size, zeroCells_size]
        simp
        omega
      have hblk := heap_alloc_new w (.cells ((cs.take p).toArray ++ Builtin.zeroCells (Value.int .i64 0).cells (cs.length + 1 - p) ++ Builtin.zeroCells (Value.int .i64 0).cells (grownCap w (cs.length + 1) cap 3 - (cs.length + 1))) 3)
      have ho := own_mid2 (w := (w.alloc (.cells ((cs.take p).toArray ++ Builtin.zeroCells (Value.int .i64 0).cells (cs.length + 1 - p) ++ Builtin.zeroCells (Value.int .i64 0).cells (grownCap w (cs.length + 1) cap 3 - (cs.length + 1))) 3)).drew) (u := .int .i64 x) (p := p) (cs := cs) hB hblk hge hle hsz hp (fun k hk => by
        rw [Array.getElem?_append_left (by rw [Array.size_append, zeroCells_size]; simp; omega), Array.getElem?_append_left (by simp; omega), List.getElem?_toArray, List.getElem?_take, if_pos hk])
      refine fin ho ?_ (.inr ⟨w.heap.size, rfl, Nat.le_refl _⟩)
      have b1 : Below w.heap.size w (w.alloc (.cells ((cs.take p).toArray ++ Builtin.zeroCells (Value.int .i64 0).cells (cs.length + 1 - p) ++ Builtin.zeroCells (Value.int .i64 0).cells (grownCap w (cs.length + 1) cap 3 - (cs.length + 1))) 3)).drew := ((Below.refl w.heap.size w).alloc (Nat.le_refl _) _).drew
      have b2 := Below.grown b1 (grown_setCells (g := w.heap.size) [.int .i64 x] p _) (Nat.le_trans (Nat.le_refl _) (by simp)) (fun k hk => by injection hk with hk; omega)
      have b3 := Below.grown b2.drew (grown_setCells (g := w.heap.size) (cs.drop p) (p + 1) _) (Nat.le_trans (Nat.le_refl _) (Nat.le_trans (by simp) (grown_setCells (g := w.heap.size) [.int .i64 x] p _).size)) (fun k hk => by injection hk with hk; omega)
      exact ⟨b3.os, b3.tape, b3.output, b3.size, fun k hk _ => b3.block k hk⟩
/-- The place of a number in a sorted list. -/
theorem ins_count (x : Int) : ∀ l : List Int, l.Pairwise (· ≤ ·) → l.countP (· < x) ≤ l.length ∧ l.take (l.countP (· < x)) ++ x :: l.drop (l.countP (· < x)) = Ren.ins x l
  | [], _ => ⟨by simp, rfl⟩
  | y :: l, h => by
    have h1 := List.pairwise_cons.1 h
    obtain ⟨i1, i2⟩ := ins_count x l h1.2
    by_cases q : y < x
    · rw [List.countP_cons_of_pos (by simpa using q), Ren.ins, if_neg (by omega)]
      refine ⟨by simp; exact i1, ?_⟩
      rw [List.take_succ_cons, List.drop_succ_cons, List.cons_append, i2]
    · have h0 : l.countP (· < x) = 0 := by
        rw [List.countP_eq_zero]
        intro z hz
        have := h1.1 z hz
        simp; omega
      rw [List.countP_cons_of_neg (by simpa using q), h0, Ren.ins, if_pos (by omega)]
      exact ⟨by simp, rfl⟩
theorem insI_c (B : Nat) (vc : Value) (l : List Int) (x : Int) (p : Nat) (hp : p ≤ l.length) (w : World) (hown : w.ownsRow B 3 1 vc l.length (l.map (Value.int .i64))) (h2 : l.length ≤ 2000) (vb : Nat) (hvb : w.heap[vb]? = some (.cells #[.int .i64 x] 3 (0, 0))) (hne : vc.ownBlock ≠ some vb) (hB : B ≤ w.heap.size) :
    Calls Try.prog 30 #[vc, .int .i64 p, .slice (some ⟨vb, 0, none⟩) 1 1] w (InsRet w B vc ((l.take p ++ x :: l.drop p).map (Value.int .i64))) := by
  have key := insC_c B vc (l.map (Value.int .i64)) ints_one x p (by simpa using hp) w (by simpa using hown) (by simpa using h2) vb hvb hne hB
  rw [List.map_append, List.map_cons, List.map_take, List.map_drop]
  exact key
/-- BinarySearch in a sorted slice. -/
theorem Search_c (A : Option Addr) (l : List Int) (c : Nat) (x : Int) (w : World) (hl : l.length ≤ 2000) (h : Sl w .i64 A l) (hs : l.Pairwise (· ≤ ·)) :
    Calls Try.prog 29 #[.slice A l.length c, .int .i64 x] w fun e w' => ∃ b, e = .returned (.tuple #[.int .i64 ((l.countP (· < x) : Nat) : Int), .bool b]) ∧ Ext w w' := by
  rcases Nat.eq_zero_or_pos l.length with h0 | h0
  · have e0 : l = [] := List.eq_nil_of_length_eq_zero h0
    subst e0
    refine (Try.slices_BinarySearch_int_empty A c x w).mono ?_
    rintro e w' ⟨rfl, rfl⟩
    exact ⟨_, rfl, Ext.refl _⟩
  · obtain ⟨b, o, rfl⟩ := SlC.base (xs := l.map (Value.int .i64)) h (by simpa using h0)
    refine (Try.slices_BinarySearch_int b o l.length c l x w (Nat.le_refl _) (by omega) (fun j hj => ?_) (by rw [List.take_length]; exact hs)).mono ?_
    · obtain ⟨a, ha, hc⟩ := h.one (i := j) (x := l.getD j 0) (by rw [List.getD_eq_getElem?_getD, List.getElem?_eq_getElem hj]; rfl)
      injection ha with ha
      subst ha
      rw [add_off] at hc
      exact hc
    · rintro e w' ⟨rfl, q, rfl⟩
      rw [List.take_length]
      exact ⟨_, rfl, (Ext.refl w).drewN q⟩
end Go.Proofs.Ytnijfndpefkoeaa
