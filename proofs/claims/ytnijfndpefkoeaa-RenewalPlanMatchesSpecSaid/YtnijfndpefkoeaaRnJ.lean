import Derived.Test.YtnijfndpefkoeaaRnB
import Derived.Shelf.Spec.SlicesInsertGrow
namespace Go.Proofs.Ytnijfndpefkoeaa
open Go Go.Proofs Go.RowKit
set_option maxHeartbeats 6400000
set_option maxRecDepth 100000
def laysIns_ren : Go.Shelf.Ren := ⟨fun | 21 => 30 | 27 => 39 | 28 => 40 | 35 => 45 | 39 => 47 | n => n, fun | 22 => 29 | 3 => 3 | 4 => 4 | 0 => 0 | n => n, fun | n => n⟩
theorem laysIns : Go.Proofs.Lays2.n21 Try.prog laysIns_ren := {
  mixed := by kernel_rfl
  f21 := Try.func30.trans (congrArg some (by kernel_rfl))
  f27 := Try.func39.trans (congrArg some (by kernel_rfl))
  f28 := Try.func40.trans (congrArg some (by kernel_rfl))
  f35 := Try.func45.trans (congrArg some (by kernel_rfl))
  f39 := Try.func47.trans (congrArg some (by kernel_rfl))
  t0 := Try.underlying0
  a0 := Try.isAgg0
  z0 := Try.sizeOf0
  v0 := Try.zeroValue0
  t3 := Try.underlying3
  a3 := Try.isAgg3
  z3 := Try.sizeOf3
  v3 := Try.zeroValue3
  t4 := Try.underlying4
  a4 := Try.isAgg4
  z4 := Try.sizeOf4
  v4 := Try.zeroValue4
  t22 := Try.underlying29
  a22 := Try.isAgg29
  z22 := Try.sizeOf29
  v22 := Try.zeroValue29
  i3 := by kernel_rfl }
/-- The cells of a block in which a row has been written. -/
theorem heap_setCells {g : Nat} {e : TypeId} : ∀ (vs : List Value) (o : Nat) (w : World) (cur : Array Value), w.heap[g]? = some (.cells cur e (0, 0)) →
    ∃ cur', (w.setCells g o vs).heap[g]? = some (.cells cur' e (0, 0)) ∧ cur'.size = cur.size ∧ ∀ k, k < cur.size → cur'[k]? = if o ≤ k ∧ k < o + vs.length then vs[k - o]? else cur[k]?
  | [], o, w, cur, h => ⟨cur, h, rfl, fun k _ => by rw [if_neg (fun q => by have := q.2; simp at this; omega)]⟩
  | v :: vs, o, w, cur, h => by
    obtain ⟨c2, h1, h2, h3⟩ := heap_setCells vs (o + 1) (w.setCell ⟨g, o, none⟩ v) (cur.setIfInBounds o v) (heap_set_self h o v)
    refine ⟨c2, h1, by rw [h2]; simp, fun k hk => ?_⟩
    rw [h3 k (by simpa using hk), getD_set]
    by_cases q : o = k
    · subst q
      rw [if_neg (by omega), if_pos rfl, if_pos (by omega), if_pos ⟨by omega, by simp⟩, Nat.sub_self]
      rfl
    · by_cases q2 : o + 1 ≤ k ∧ k < o + 1 + vs.length
      · rw [if_pos q2, if_pos ⟨by omega, by simp; omega⟩, show k - o = (k - (o + 1)) + 1 by omega]
        rfl
      · rw [if_neg q2, if_neg q, if_neg (by simp; omega)]
theorem grown_setCells {g : Nat} : ∀ (vs : List Value) (o : Nat) (w : World), w.grownBy (w.setCells g o vs) (some g)
  | [], o, w => ⟨rfl, rfl, rfl, Nat.le_refl _, fun _ _ _ => rfl⟩
  | v :: vs, o, w => by
    have h := grown_setCells (g := g) vs (o + 1) (w.setCell ⟨g, o, none⟩ v)
    refine ⟨h.os, h.tape, h.output, ?_, fun k hk hne => ?_⟩
    · have := h.size
      show w.heap.size ≤ ((w.setCell ⟨g, o, none⟩ v).setCells g (o + 1) vs).heap.size
      simpa using this
    · have h1 := h.block k (by simpa using hk) hne
      exact h1.trans (Below.heap_setCell _ _ _ _ (fun q => hne (by rw [q])))
theorem grown_trans {w w1 w2 : World} {r : Option Nat} (h : w.grownBy w1 r) (k : w1.grownBy w2 r) : w.grownBy w2 r :=
  ⟨k.os.trans h.os, k.tape.trans h.tape, k.output.trans h.output, Nat.le_trans h.size k.size, fun g hg hne => (k.block g (Nat.lt_of_lt_of_le hg h.size) hne).trans (h.block g hg hne)⟩
theorem own_of_cells {w : World} {B g cap : Nat} {c2 : Array Value} {xs : List Value} {u : Value} (hb : B ≤ g) (k1 : w.heap[g]? = some (.cells c2 3 (0, 0))) (hn : xs.length + 1 ≤ cap) (hm : cap ≤ maxLen) (hc : c2.size = cap)
    (h0 : c2[0]? = some u) (hs : ∀ k, k < xs.length → c2[k + 1]? = xs[k]?) : w.ownsRow B 3 1 (.slice (some ⟨g, 0, none⟩) (xs.length + 1) cap) (xs.length + 1) (u :: xs) := by
  refine ⟨by simp, .inr ⟨g, cap, c2, rfl, hb, k1, hn, hm, by rw [hc, Nat.mul_one], ?_⟩⟩
  apply List.ext_getElem?
  intro k
  rw [List.getElem?_take, Nat.mul_one]
  by_cases hk : k < xs.length + 1
  · rw [if_pos hk, Array.getElem?_toList]
    by_cases h00 : k = 0
    · subst h00; exact h0
    · obtain ⟨j, rfl⟩ : ∃ j, k = j + 1 := ⟨k - 1, by omega⟩
      rw [List.getElem?_cons_succ]
      exact hs j (by omega)
  · rw [if_neg hk, List.getElem?_eq_none (by simp; omega)]
/-- A row with one number more at its front, in its place. -/
theorem own_front {w : World} {B g cap : Nat} {cur : Array Value} {xs : List Value} {u : Value} (hb : B ≤ g) (hg : w.heap[g]? = some (.cells cur 3 (0, 0))) (hn : xs.length + 1 ≤ cap) (hm : cap ≤ maxLen) (hc : cur.size = cap) :
    ((w.setCells g 1 xs).setCells g 0 [u]).ownsRow B 3 1 (.slice (some ⟨g, 0, none⟩) (xs.length + 1) cap) (xs.length + 1) (u :: xs) := by
  obtain ⟨c1, h1, h2, h3⟩ := heap_setCells xs 1 w cur hg
  obtain ⟨c2, k1, k2, k3⟩ := heap_setCells [u] 0 (w.setCells g 1 xs) c1 h1
  refine own_of_cells hb k1 hn hm (by rw [k2, h2, hc]) (by rw [k3 0 (by omega)]; rfl) (fun k hk => ?_)
  rw [k3 (k + 1) (by omega), if_neg (fun q => by have := q.2; simp at this), h3 (k + 1) (by omega), if_pos ⟨by omega, by omega⟩, Nat.add_sub_cancel]
/-- .. and new. -/
theorem own_front2 {w : World} {B g cap : Nat} {cur : Array Value} {xs : List Value} {u : Value} (hb : B ≤ g) (hg : w.heap[g]? = some (.cells cur 3 (0, 0))) (hn : xs.length + 1 ≤ cap) (hm : cap ≤ maxLen) (hc : cur.size = cap) :
    ((w.setCells g 0 [u]).drew.setCells g 1 xs).ownsRow B 3 1 (.slice (some ⟨g, 0, none⟩) (xs.length + 1) cap) (xs.length + 1) (u :: xs) := by
  obtain ⟨c1, h1, h2, h3⟩ := heap_setCells [u] 0 w cur hg
  obtain ⟨c2, k1, k2, k3⟩ := heap_setCells xs 1 (w.setCells g 0 [u]).drew c1 h1
  refine own_of_cells hb k1 hn hm (by rw [k2, h2, hc]) (by rw [k3 0 (by omega), if_neg (by omega), h3 0 (by omega)]; rfl) (fun k hk => ?_)
  rw [k3 (k + 1) (by omega), if_pos ⟨by omega, by omega⟩, Nat.add_sub_cancel]
theorem zeroCells_size (n : Nat) : (Builtin.zeroCells (Value.int .i64 0).cells n).size = n := by
  unfold Builtin.zeroCells
  simp [Value.cells]
theorem ints_cell {l : List Int} : ∀ v ∈ l.map (Value.int .i64), v.oneCell' = true := ints_one
theorem insert0_c (B : Nat) (vc : Value) (l : List Int) (w : World) (hown : w.ownsRow B 3 1 vc l.length (l.map (Value.int .i64))) (h1 : 1 ≤ l.length) (h2 : l.length ≤ 200) (vb : Nat) (hvb : w.heap[vb]? = some (.cells #[.int .i64 0] 3 (0, 0))) (hne : vc.ownBlock ≠ some vb) (hB : B ≤ w.heap.size) :
    Calls Try.prog 30 #[vc, .int .i64 0, .slice (some ⟨vb, 0, none⟩) 1 1] w fun e w' => ∃ v', e = .returned v' ∧ RowTo w w' B 3 vc v' (l.length + 1) ((0 :: l).map (Value.int .i64)) := by
  rcases hown.2 with ⟨_, h0⟩ | ⟨g, cap, cur, rfl, hb, hg, hn, hm, hc, ht⟩
  · omega
  rw [Nat.mul_one] at hc
  have hgv : vb ≠ g := fun q => hne (by rw [q]; rfl)
  have hcell : ∀ j v, (l.map (Value.int .i64))[j]? = some v → w.cell? ⟨g, 0 + j, none⟩ = some v := fun j v hv => by
    have := hown.cells (g := g) rfl j v hv
    rw [add_off] at this
    exact this
  have hvs : ∀ (j : Nat) v, ([.int .i64 0] : List Value)[j]? = some v → w.cell? ⟨vb, 0 + j, none⟩ = some v := fun j v hv => by
    rw [blk_cell hvb (0 + j), Nat.zero_add, List.getElem?_toArray]; exact hv
  have hm' : cap ≤ 9223372036854775807 := hm
  have hfr : ∀ o, w.frozen? ⟨g, o, none⟩ = false := fun o => blk_frozen hg o
  have hlm : (l.map (Value.int .i64)).length = l.length := List.length_map _
  by_cases hroom : l.length + 1 ≤ cap
  · have key := Any2.slices_Insert_int_shift laysIns g 0 l.length cap 0 vb 0 1 1 (l.map (Value.int .i64)) [.int .i64 0] w (by omega) (by omega) hroom hm' hgv hlm rfl hcell
      (fun j hj => by rw [blk_cell hg (0 + j), Array.getElem?_eq_getElem (by omega)]; rfl) (fun j _ => hfr _) hvs ints_cell (by intro v hv; rw [List.mem_singleton.1 hv]; rfl) 3 3 1 cap
      (by unfold World.shape?; rw [hvb]; rfl) (by unfold World.shape?; rw [hg]; simp [hc]) (by omega) (blk_frozen hvb _) (blk_frozen hvb _)
    refine key.mono fun e w' ⟨he, hw⟩ => ⟨_, he, ?_⟩
    subst hw
    have ho := own_front (w := w.drew) (u := .int .i64 0) (xs := l.map (Value.int .i64)) hb hg (by rw [hlm]; exact hroom) hm hc
    rw [hlm] at ho
    have hgr : w.grownBy ((w.drew.setCells g 1 (l.map (Value.int .i64))).setCells g 0 [.int .i64 0]) (some g) :=
      grown_trans (w1 := w.drew) ⟨rfl, rfl, rfl, Nat.le_refl _, fun _ _ _ => rfl⟩ (grown_trans (grown_setCells _ _ _) (grown_setCells _ _ _))
    exact ⟨ho, hgr, .inl rfl⟩
  · have key := Any2.slices_Insert_int_grow laysIns g 0 l.length cap 0 vb 0 1 1 (l.map (Value.int .i64)) [.int .i64 0] w (by omega) (by omega) hn (by omega) (by omega) hlm rfl hcell hvs ints_cell (by intro v hv; rw [List.mem_singleton.1 hv]; rfl)
    refine key.mono fun e w' ⟨he, hw⟩ => ⟨_, he, ?_⟩
    subst hw
    have hge := grownCap_ge w (l.length + 1) cap 3
    have hle := grownCap_le_maxLen w (l.length + 1) cap 3 (by unfold maxLen; omega)
    have hsz : (((l.map (Value.int .i64)).take 0).toArray ++ Builtin.zeroCells (Value.int .i64 0).cells (l.length + 1 - 0) ++ Builtin.zeroCells (Value.int .i64 0).cells (grownCap w (l.length + 1) cap 3 - (l.length + 1))).size = grownCap w (l.length + 1) cap 3 := by
      rw [Array.size_append, Array.size_append, zeroCells_size, zeroCells_size]
      simp
      omega
    have hblk := heap_alloc_new w (.cells (((l.map (Value.int .i64)).take 0).toArray ++ Builtin.zeroCells (Value.int .i64 0).cells (l.length + 1 - 0) ++ Builtin.zeroCells (Value.int .i64 0).cells (grownCap w (l.length + 1) cap 3 - (l.length + 1))) 3)
    have ho := own_front2 (w := (w.alloc (.cells (((l.map (Value.int .i64)).take 0).toArray ++ Builtin.zeroCells (Value.int .i64 0).cells (l.length + 1 - 0) ++ Builtin.zeroCells (Value.int .i64 0).cells (grownCap w (l.length + 1) cap 3 - (l.length + 1))) 3)).drew) (u := .int .i64 0) (xs := l.map (Value.int .i64)) hB hblk (by rw [hlm]; exact hge) hle hsz
    rw [hlm] at ho
    refine ⟨ho, ?_, .inr ⟨w.heap.size, rfl, Nat.le_refl _⟩⟩
    have hgr := grown_trans (grown_setCells (g := w.heap.size) [.int .i64 0] 0 (w.alloc (.cells (((l.map (Value.int .i64)).take 0).toArray ++ Builtin.zeroCells (Value.int .i64 0).cells (l.length + 1 - 0) ++ Builtin.zeroCells (Value.int .i64 0).cells (grownCap w (l.length + 1) cap 3 - (l.length + 1))) 3)).drew) (grown_trans (w1 := ((w.alloc (.cells (((l.map (Value.int .i64)).take 0).toArray ++ Builtin.zeroCells (Value.int .i64 0).cells (l.length + 1 - 0) ++ Builtin.zeroCells (Value.int .i64 0).cells (grownCap w (l.length + 1) cap 3 - (l.length + 1))) 3)).drew.setCells w.heap.size 0 [.int .i64 0]).drew) ⟨rfl, rfl, rfl, Nat.le_refl _, fun _ _ _ => rfl⟩ (grown_setCells (g := w.heap.size) (l.map (Value.int .i64)) 1 _))
    refine ⟨hgr.os, hgr.tape, hgr.output, Nat.le_trans (by simp) hgr.size, fun k hk _ => ?_⟩
    refine (hgr.block k (by show k < (w.alloc _).heap.size; simp; omega) (fun q => by injection q with q; omega)).trans ?_
    exact Below.block ((Below.refl w.heap.size w).alloc (Nat.le_refl _) _) k hk
end Go.Proofs.Ytnijfndpefkoeaa
