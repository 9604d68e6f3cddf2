import Derived.Test.YtbhcaniopdgjkaaVal1
namespace Go.Proofs.Ytbhcaniopdgjkaa
open Go Go.Proofs Go.RowKit
open Plain (SiteD)
/-- A fault is returned. -/
def FRet (w : World) (f : Int × Int) (e : Ending) (w' : World) : Prop := e = .returned (.agg #[.int .i64 f.1, .int .i64 f.2]) ∧ Ext w w'
theorem blk_cell {w : World} {g : Nat} {cs : Array Value} {t : TypeId} (h : w.heap[g]? = some (.cells cs t (0, 0))) (i : Nat) : w.cell? ⟨g, i, none⟩ = cs[i]? := by simp [World.cell?, h]
theorem blk_frozen {w : World} {g : Nat} {cs : Array Value} {t : TypeId} (h : w.heap[g]? = some (.cells cs t (0, 0))) (i : Nat) : w.frozen? ⟨g, i, none⟩ = false := by simp [World.frozen?, h]
theorem ext_blk {w w' : World} (e : Ext w w') {g : Nat} {o : Obj} (h : w.heap[g]? = some o) : w'.heap[g]? = some o := by
  have hlt : g < w.heap.size := by
    rcases Nat.lt_or_ge g w.heap.size with h1 | h1
    · exact h1
    · rw [Array.getElem?_eq_none h1] at h; cases h
  rw [← h]; exact e.block g hlt
theorem new_blk (w : World) (o : Obj) : (w.alloc o).heap[w.heap.size]? = some o := by simp [World.alloc, -World.alloc_eq]
/-- The block that holds a fault. -/
def FBlk (w : World) (g : Nat) (f : Int × Int) : Prop := w.heap[g]? = some (.cells #[.int .i64 f.1, .int .i64 f.2] 25 (0, 0))
theorem FBlk.c0 {w : World} {g : Nat} {f : Int × Int} (h : FBlk w g f) : w.cell? ⟨g, 0, none⟩ = some (.int .i64 f.1) := blk_cell h 0
theorem FBlk.c1 {w : World} {g : Nat} {f : Int × Int} (h : FBlk w g f) : w.cell? ⟨g, 1, none⟩ = some (.int .i64 f.2) := blk_cell h 1
theorem FBlk.z {w : World} {g : Nat} {f : Int × Int} (h : FBlk w g f) (i : Nat) : w.frozen? ⟨g, i, none⟩ = false := blk_frozen h i
theorem FBlk.ext {w w' : World} {g : Nat} {f : Int × Int} (h : FBlk w g f) (e : Ext w w') : FBlk w' g f := ext_blk e h
theorem FBlk.new (w : World) (a b : Int) : FBlk (w.alloc (.cells #[.int .i64 a, .int .i64 b] 25)) w.heap.size (a, b) := new_blk _ _
theorem new_lt {w w1 : World} {o : Obj} (e : Ext (w.alloc o) w1) : w.heap.size < w1.heap.size := by
  have := e.size
  simp at this
  omega
theorem fault_res {fn : Func} {p : Tmp} (h : fn.results = #[.cell p 25]) (tmps : Array Value) (w : World) (g : Nat) (f : Int × Int) (hp : tmps.getD p undef = .pointer (some ⟨g, 0, none⟩)) (hb : FBlk w g f) :
    (results fn tmps).run Try.prog w = .ok (.agg #[.int .i64 f.1, .int .i64 f.2]) w := by
  have hp' : tmps[p]?.getD undef = .pointer (some ⟨g, 0, none⟩) := by simpa using hp
  have h0 := hb.c0
  have h1 := hb.c1
  simp [results, h, hp', go_sem, h0, h1]
theorem FBlk.set {w : World} {g : Nat} {f : Int × Int} (h : FBlk w g f) (a b : Int) : FBlk ((w.setCell ⟨g, 0, none⟩ (.int .i64 a)).setCell ⟨g, 1, none⟩ (.int .i64 b)) g (a, b) := by
  have h' : w.heap[g]? = some (.cells #[.int .i64 f.1, .int .i64 f.2] 25 (0, 0)) := h
  unfold FBlk
  simp only [World.setCell, Array.getElem?_modify, h', if_true]
  rfl
theorem FBlk.alloc {w : World} {g : Nat} {f : Int × Int} (h : FBlk w g f) (o : Obj) : FBlk (w.alloc o) g f := h.ext ((Ext.refl w).alloc o)
theorem Ext.set2 {w w1 : World} (e : Ext w w1) (a b : Value) : Ext w ((w1.setCell ⟨w.heap.size, 0, none⟩ a).setCell ⟨w.heap.size, 1, none⟩ b) := (e.setCell (p := ⟨w.heap.size, 0, none⟩) (Nat.le_refl _) _).setCell (p := ⟨w.heap.size, 1, none⟩) (Nat.le_refl _) _
theorem ext_new {w w1 : World} {o : Obj} (e : Ext (w.alloc o) w1) : Ext w w1 := ((Ext.refl w).alloc o).trans e
end Go.Proofs.Ytbhcaniopdgjkaa
