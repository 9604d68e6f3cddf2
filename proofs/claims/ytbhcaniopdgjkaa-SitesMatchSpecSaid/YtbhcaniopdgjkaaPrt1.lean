import Derived.Test.YtbhcaniopdgjkaaWst
namespace Go.Proofs.Ytbhcaniopdgjkaa
open Go Go.Proofs Go.RowKit
open Plain (SiteD)
set_option maxHeartbeats 1000000
set_option maxRecDepth 100000
/-- Two sites have a common zone. -/
def adjF (L : List SiteD) (i k : Nat) : Bool := meetsB (Plain.zonesAt L (i : Int)) (Plain.zonesAt L (k : Int))
def seenRow (n : Nat) (acc : List Nat) : Array Value := ((List.range n).map fun k => Value.bool (acc.contains k)).toArray
theorem seenRow_size (n : Nat) (acc : List Nat) : (seenRow n acc).size = n := by simp [seenRow]
theorem seenRow_at {n k : Nat} (acc : List Nat) (h : k < n) : (seenRow n acc)[k]? = some (.bool (acc.contains k)) := by simp [seenRow, h]
theorem seenRow_set {n i : Nat} (acc : List Nat) (h : i < n) : (seenRow n acc).setIfInBounds i (.bool true) = seenRow n (acc ++ [i]) := by
  apply Array.ext_getElem?
  intro k
  rw [Array.getElem?_setIfInBounds, seenRow_size]
  by_cases hk : k < n
  · rw [seenRow_at _ hk, seenRow_at _ hk]
    by_cases hik : i = k
    · subst hik; simp [hk]
    · simp [hik]
      by_cases hm : k ∈ acc
      · simp [hm]
      · simp [hm]; omega
  · rw [if_neg (by omega)]
    rw [Array.getElem?_eq_none (by rw [seenRow_size]; omega), Array.getElem?_eq_none (by rw [seenRow_size]; omega)]
/-- The worlds of one search. -/
structure VisP (Ws wr : World) (gs bg n : Nat) (acc : List Nat) (grp : List Int) : Prop where
  os : wr.os = Ws.os
  tape : wr.tape = Ws.tape
  output : wr.output = Ws.output
  size : Ws.heap.size ≤ wr.heap.size
  keep : ∀ b, b < Ws.heap.size → b ≠ gs → b ≠ bg → wr.heap[b]? = Ws.heap[b]?
  seen : wr.heap[gs]? = some (.cells (seenRow n acc) 4 (0, 0))
  grp : ∃ v, wr.heap[bg]? = some (.cells #[v] 23 (0, 0)) ∧ wr.ownsRow Ws.heap.size 3 1 v grp.length (grp.map (Value.int .i64))
section
variable {Ws wr w1 : World} {gs bg n : Nat} {acc : List Nat} {grp : List Int}
theorem VisP.ext (h : VisP Ws wr gs bg n acc grp) (e : Ext wr w1) : VisP Ws w1 gs bg n acc grp := by
  obtain ⟨v, h1, h2⟩ := h.grp
  refine ⟨e.os.trans h.os, e.tape.trans h.tape, e.output.trans h.output, Nat.le_trans h.size e.size, fun b hb a1 a2 => ?_, ext_blk e h.seen, ⟨v, ext_blk e h1, own_ext h2 e⟩⟩
  rw [← h.keep b hb a1 a2]
  exact e.block b (Nat.lt_of_lt_of_le hb h.size)
theorem VisP.cell (h : VisP Ws wr gs bg n acc grp) {b i : Nat} {v : Value} (hc : Ws.cell? ⟨b, i, none⟩ = some v) (h1 : b ≠ gs) (h2 : b ≠ bg) : wr.cell? ⟨b, i, none⟩ = some v := by
  have hb := World.block_lt_of_cell? Ws _ hc
  rw [← hc]
  unfold World.cell?
  rw [h.keep b hb h1 h2]
theorem VisP.x {w0 : World} (h : VisP Ws wr gs bg n acc grp) (e : Ext w0 Ws) (h1 : w0.heap.size ≤ gs) (h2 : w0.heap.size ≤ bg) : Ext w0 wr := by
  refine ⟨h.os.trans e.os, h.tape.trans e.tape, h.output.trans e.output, Nat.le_trans e.size h.size, fun b hb => ?_⟩
  rw [h.keep b (Nat.lt_of_lt_of_le hb e.size) (by omega) (by omega)]
  exact e.block b hb
theorem VisP.mark (h : VisP Ws wr gs bg n acc grp) (hs : gs < Ws.heap.size) (hg : gs ≠ bg) {i : Nat} (hi : i < n) : VisP Ws (wr.setCell ⟨gs, i, none⟩ (.bool true)) gs bg n (acc ++ [i]) grp := by
  obtain ⟨v, h1, h2⟩ := h.grp
  refine ⟨h.os, h.tape, h.output, by rw [show (wr.setCell ⟨gs, i, none⟩ (.bool true)).heap.size = wr.heap.size by simp [World.setCell]]; exact h.size, fun b hb a1 a2 => by rw [Below.heap_setCell _ _ _ _ a1]; exact h.keep b hb a1 a2, ?_, ⟨v, by rw [Below.heap_setCell _ _ _ _ (Ne.symm hg)]; exact h1, own_set h2 hs _ _⟩⟩
  have := h.seen
  rw [← seenRow_set acc hi]
  simp only [World.setCell, Array.getElem?_modify, this, if_true]; rfl
/-- A site comes into the group. -/
theorem VisP.add (h : VisP Ws wr gs bg n acc grp) (hs : gs < Ws.heap.size) (hb : bg < Ws.heap.size) (hg : gs ≠ bg) {v v3 : Value} {w3 : World} {o : Obj} {i : Int} (hv : wr.heap[bg]? = some (.cells #[v] 23 (0, 0))) (hv2 : wr.ownsRow Ws.heap.size 3 1 v grp.length (grp.map (Value.int .i64)))
    (ho : w3.ownsRow Ws.heap.size 3 1 v3 (grp.length + 1) (grp.map (Value.int .i64) ++ [.int .i64 i])) (hgr : (wr.alloc o).grownBy w3 v.ownBlock) : VisP Ws (w3.setCell ⟨bg, 0, none⟩ v3) gs bg n acc (grp ++ [i]) := by
  have hx1 : Ext wr (wr.alloc o) := (Ext.refl wr).alloc o
  have hbel : Below Ws.heap.size wr w3 := Below.grown (Below.mono hx1 h.size) hgr (Nat.le_trans h.size hx1.size) fun k hk => (own_lt (own_ext hv2 hx1) hk).1
  have hsz : (w3.setCell ⟨bg, 0, none⟩ v3).heap.size = w3.heap.size := by simp [World.setCell]
  refine ⟨hbel.os.trans h.os, hbel.tape.trans h.tape, hbel.output.trans h.output, by rw [hsz]; exact Nat.le_trans h.size hbel.size, fun b hb' a1 a2 => ?_, ?_, ⟨v3, ?_, ?_⟩⟩
  · rw [Below.heap_setCell _ _ _ _ a2, hbel.block b hb']; exact h.keep b hb' a1 a2
  · rw [Below.heap_setCell _ _ _ _ hg, hbel.block gs hs]; exact h.seen
  · have hc : w3.heap[bg]? = some (.cells #[v] 23 (0, 0)) := by rw [hbel.block bg hb]; exact hv
    simp only [World.setCell, Array.getElem?_modify, hc, if_true]; rfl
  · rw [List.length_append, List.map_append]
    exact own_set ho hb _ _
end
end Go.Proofs.Ytbhcaniopdgjkaa
