import Derived.Test.YtbhcaniopdgjkaaPlc2
namespace Go.Proofs.Ytbhcaniopdgjkaa
open Go Go.Proofs Go.RowKit
open Plain (SiteD)
set_option maxHeartbeats 1000000
set_option maxRecDepth 100000
/-- The row of the labels. -/
def labRow (n : Nat) (f : Nat → Nat) : Array Value := ((List.range n).map fun k => Value.int .i64 (f k : Int)).toArray
theorem labRow_size (n : Nat) (f : Nat → Nat) : (labRow n f).size = n := by simp [labRow]
theorem labRow_at {n k : Nat} (f : Nat → Nat) (h : k < n) : (labRow n f)[k]? = some (.int .i64 (f k : Int)) := by simp [labRow, h]
theorem labRow_set {n i : Nat} (f : Nat → Nat) (v : Nat) (h : i < n) : (labRow n f).setIfInBounds i (.int .i64 (v : Int)) = labRow n (Plain.upd f i v) := by
  apply Array.ext_getElem?
  intro k
  rw [Array.getElem?_setIfInBounds, labRow_size]
  by_cases hk : k < n
  · rw [labRow_at _ hk, labRow_at _ hk]
    by_cases hik : i = k
    · subst hik; simp [hk, Plain.upd]
    · rw [if_neg hik]; simp [Plain.upd, Ne.symm hik]
  · rw [if_neg (by omega)]
    rw [Array.getElem?_eq_none (by rw [labRow_size]; omega), Array.getElem?_eq_none (by rw [labRow_size]; omega)]
/-- The worlds in which the labels are made. -/
structure Labs (w wr : World) (gf n : Nat) (f : Nat → Nat) : Prop where
  x : Ext w wr
  base : w.heap.size ≤ gf
  row : wr.heap[gf]? = some (.cells (labRow n f) 3 (0, 0))
theorem Labs.ext {w wr w1 : World} {gf n : Nat} {f : Nat → Nat} (h : Labs w wr gf n f) (e : Ext wr w1) : Labs w w1 gf n f := ⟨h.x.trans e, h.base, ext_blk e h.row⟩
theorem Labs.cell {w wr : World} {gf n : Nat} {f : Nat → Nat} (h : Labs w wr gf n f) {k : Nat} (hk : k < n) : wr.cell? ⟨gf, k, none⟩ = some (.int .i64 (f k : Int)) := by
  rw [blk_cell h.row]; exact labRow_at f hk
theorem Labs.z {w wr : World} {gf n : Nat} {f : Nat → Nat} (h : Labs w wr gf n f) (k : Nat) : wr.frozen? ⟨gf, k, none⟩ = false := blk_frozen h.row k
theorem Labs.set {w wr : World} {gf n : Nat} {f : Nat → Nat} (h : Labs w wr gf n f) {i : Nat} (hi : i < n) (v : Nat) : Labs w (wr.setCell ⟨gf, i, none⟩ (.int .i64 (v : Int))) gf n (Plain.upd f i v) := by
  refine ⟨h.x.setCell (p := ⟨gf, i, none⟩) h.base _, h.base, ?_⟩
  have := h.row
  rw [← labRow_set f v hi]
  simp only [World.setCell, Array.getElem?_modify, this, if_true]; rfl
end Go.Proofs.Ytbhcaniopdgjkaa
