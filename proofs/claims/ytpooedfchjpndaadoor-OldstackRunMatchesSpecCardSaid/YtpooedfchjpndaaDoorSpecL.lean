import Derived.Test.YtpooedfchjpndaaDoorStop
namespace Go.Proofs.YtpooedfchjpndaaDoor
open Go Go.Proofs Go.RowKit
/-- The state is read from these cells without the bad blocks. -/
def StAv (bad : Nat → Prop) (w : World) (cs : Array Value) (s : St) : Prop := ∀ F : World, (∀ g, ¬ bad g → g < w.heap.size → F.heap[g]? = w.heap[g]?) → StIs F cs s
theorem StAv.st {bad : Nat → Prop} {w : World} {cs : Array Value} {s : St} (h : StAv bad w cs s) : StIs w cs s := h w fun _ _ _ => rfl
theorem StAv.ext {bad : Nat → Prop} {w w' : World} {cs : Array Value} {s : St} (h : StAv bad w cs s) (x : Ext w w') : StAv bad w' cs s :=
  fun F hF => h F fun g hg hl => (hF g hg (Nat.lt_of_lt_of_le hl x.size)).trans (x.block g hl)
def SpRet (bad : Nat → Prop) (w : World) (s : St) (e : Ending) (w' : World) : Prop := ∃ cs', e = .returned (.agg cs') ∧ StAv bad w' cs' s ∧ Ext w w'
section
variable {F : World} {cs : Array Value} {s : St}
theorem keyne {v : Value} {i j : Nat} (h : i ≠ j) : (cs.setIfInBounds j v)[i]? = cs[i]? := Array.getElem?_setIfInBounds_ne (fun e => h e.symm)
theorem keyeq {v : Value} {j : Nat} (h : StIs F cs s) (hj : j < 39) : (cs.setIfInBounds j v)[j]? = some v := Array.getElem?_setIfInBounds_self_of_lt (by rw [h.size]; exact hj)
theorem at_set {n : Int} (h : StIs F cs s) (hn : I64 n) : StIs F (cs.setIfInBounds 1 (.int .i64 n)) { s with at_ := n } := by
  refine ⟨by simpa using h.size, ?_, keyeq h (by omega), ?_, ?_, ?_, ?_, ?_, ?_, ⟨h.wf.image, hn, h.wf.data, h.wf.ret, h.wf.mem, h.wf.memlen, h.wf.input, h.wf.output, h.wf.stop⟩⟩
  · rw [keyne (by omega)]; exact h.image
  · rw [keyne (by omega)]; exact h.data
  · rw [keyne (by omega)]; exact h.ret
  · intro i hi; rw [keyne (by omega)]; exact h.mem i hi
  · rw [keyne (by omega)]; exact h.input
  · rw [keyne (by omega)]; exact h.output
  · rw [keyne (by omega)]; exact h.stop
theorem data_set {v : Value} {l : List Int} (h : StIs F cs s) (hv : SlAt F .u16 (some v) l) (hl : Half l) : StIs F (cs.setIfInBounds 2 v) { s with data := l } := by
  refine ⟨by simpa using h.size, ?_, ?_, ?_, ?_, ?_, ?_, ?_, ?_, ⟨h.wf.image, h.wf.at_, hl, h.wf.ret, h.wf.mem, h.wf.memlen, h.wf.input, h.wf.output, h.wf.stop⟩⟩
  · rw [keyne (by omega)]; exact h.image
  · rw [keyne (by omega)]; exact h.at_
  · rw [keyeq h (by omega)]; exact hv
  · rw [keyne (by omega)]; exact h.ret
  · intro i hi; rw [keyne (by omega)]; exact h.mem i hi
  · rw [keyne (by omega)]; exact h.input
  · rw [keyne (by omega)]; exact h.output
  · rw [keyne (by omega)]; exact h.stop
theorem ret_set {v : Value} {l : List Int} (h : StIs F cs s) (hv : SlAt F .i64 (some v) l) (hl : ∀ x ∈ l, I64 x) : StIs F (cs.setIfInBounds 3 v) { s with ret := l } := by
  refine ⟨by simpa using h.size, ?_, ?_, ?_, ?_, ?_, ?_, ?_, ?_, ⟨h.wf.image, h.wf.at_, h.wf.data, hl, h.wf.mem, h.wf.memlen, h.wf.input, h.wf.output, h.wf.stop⟩⟩
  · rw [keyne (by omega)]; exact h.image
  · rw [keyne (by omega)]; exact h.at_
  · rw [keyne (by omega)]; exact h.data
  · rw [keyeq h (by omega)]; exact hv
  · intro i hi; rw [keyne (by omega)]; exact h.mem i hi
  · rw [keyne (by omega)]; exact h.input
  · rw [keyne (by omega)]; exact h.output
  · rw [keyne (by omega)]; exact h.stop
theorem in_set {v : Value} {l : List Int} (h : StIs F cs s) (hv : SlAt F .u8 (some v) l) (hl : Byt l) : StIs F (cs.setIfInBounds 36 v) { s with input := l } := by
  refine ⟨by simpa using h.size, ?_, ?_, ?_, ?_, ?_, ?_, ?_, ?_, ⟨h.wf.image, h.wf.at_, h.wf.data, h.wf.ret, h.wf.mem, h.wf.memlen, hl, h.wf.output, h.wf.stop⟩⟩
  · rw [keyne (by omega)]; exact h.image
  · rw [keyne (by omega)]; exact h.at_
  · rw [keyne (by omega)]; exact h.data
  · rw [keyne (by omega)]; exact h.ret
  · intro i hi; rw [keyne (by omega)]; exact h.mem i hi
  · rw [keyeq h (by omega)]; exact hv
  · rw [keyne (by omega)]; exact h.output
  · rw [keyne (by omega)]; exact h.stop
theorem out_set {v : Value} {l : List Int} (h : StIs F cs s) (hv : SlAt F .u8 (some v) l) (hl : Byt l) : StIs F (cs.setIfInBounds 37 v) { s with output := l } := by
  refine ⟨by simpa using h.size, ?_, ?_, ?_, ?_, ?_, ?_, ?_, ?_, ⟨h.wf.image, h.wf.at_, h.wf.data, h.wf.ret, h.wf.mem, h.wf.memlen, h.wf.input, hl, h.wf.stop⟩⟩
  · rw [keyne (by omega)]; exact h.image
  · rw [keyne (by omega)]; exact h.at_
  · rw [keyne (by omega)]; exact h.data
  · rw [keyne (by omega)]; exact h.ret
  · intro i hi; rw [keyne (by omega)]; exact h.mem i hi
  · rw [keyne (by omega)]; exact h.input
  · rw [keyeq h (by omega)]; exact hv
  · rw [keyne (by omega)]; exact h.stop
theorem mem_set {n : Nat} {x : Int} (h : StIs F cs s) (hn : n < 32) (hx : 0 ≤ x ∧ x < 65536) : StIs F (cs.setIfInBounds (4 + n) (.int .u16 x)) { s with mem := s.mem.set n x } := by
  have hl := h.wf.memlen
  refine ⟨by simpa using h.size, ?_, ?_, ?_, ?_, ?_, ?_, ?_, ?_, ⟨h.wf.image, h.wf.at_, h.wf.data, h.wf.ret, ?_, by simpa using hl, h.wf.input, h.wf.output, h.wf.stop⟩⟩
  · rw [keyne (by omega)]; exact h.image
  · rw [keyne (by omega)]; exact h.at_
  · rw [keyne (by omega)]; exact h.data
  · rw [keyne (by omega)]; exact h.ret
  · intro i hi
    by_cases e : i = n
    · subst e
      rw [keyeq h (by omega)]
      simp [hl, hn]
    · rw [keyne (by omega), h.mem i hi]
      simp [List.getElem?_set_ne (fun q => e q.symm)]
  · rw [keyne (by omega)]; exact h.input
  · rw [keyne (by omega)]; exact h.output
  · rw [keyne (by omega)]; exact h.stop
  · intro y hy
    rcases List.mem_or_eq_of_mem_set hy with hy | hy
    · exact h.wf.mem y hy
    · rw [hy]; exact hx
end
/-- Ahead of the instruction's own part: the copy of the state, the copy of its stack. -/
structure Pre (bad : Nat → Prop) (w wx : World) (s1 : St) (cs1 : Array Value) (v : Value) (l : List Int) : Prop where
  b1 : wx.heap[w.heap.size]? = some (.cells cs1 28 (0, 0))
  b2 : wx.heap[w.heap.size + 1]? = some (.cells zeroSt 28 (0, 0))
  st : ∀ F : World, (∀ g, ¬ bad g → g < w.heap.size → F.heap[g]? = w.heap[g]?) → StIs F cs1 s1
  own : wx.ownsRow (w.heap.size + 2) 25 1 v l.length (l.map (Value.int .u16))
  x : Ext w wx
def Agr (bad : Nat → Prop) (B : Nat) (wx F : World) : Prop := ∀ g, ¬ bad g → g ≠ B → g ≠ B + 1 → g < wx.heap.size → F.heap[g]? = wx.heap[g]?
structure Mid (bad : Nat → Prop) (w wx : World) (s1 : St) (cs1 : Array Value) (v : Value) (l : List Int) : Prop where
  b1 : wx.heap[w.heap.size]? = some (.cells cs1 28 (0, 0))
  b2 : wx.heap[w.heap.size + 1]? = some (.cells zeroSt 28 (0, 0))
  st : ∀ F : World, Agr bad w.heap.size wx F → StIs F cs1 s1
  own : wx.ownsRow (w.heap.size + 2) 25 1 v l.length (l.map (Value.int .u16))
  x : Ext w wx
section
variable {bad : Nat → Prop} {w wx w2 : World} {s1 s2 : St} {cs1 : Array Value} {v v' : Value} {l l' : List Int}
theorem Pre.mid (h : Pre bad w wx s1 cs1 v l) : Mid bad w wx s1 cs1 v l :=
  ⟨h.b1, h.b2, fun F hF => h.st F fun g hg hl => (hF g hg (by omega) (by omega) (Nat.lt_of_lt_of_le hl h.x.size)).trans (h.x.block g hl), h.own, h.x⟩
theorem Pre.lt (h : Pre bad w wx s1 cs1 v l) : w.heap.size + 1 < wx.heap.size := (Array.getElem?_eq_some_iff.1 h.b2).1
theorem Mid.lt (h : Mid bad w wx s1 cs1 v l) : w.heap.size + 1 < wx.heap.size := (Array.getElem?_eq_some_iff.1 h.b2).1
theorem set_other {wx : World} {B i : Nat} {u : Value} {g : Nat} (h : g ≠ B) : (wx.setCell ⟨B, i, none⟩ u).heap[g]? = wx.heap[g]? := Below.heap_setCell wx ⟨B, i, none⟩ u g h
theorem Pre.set (h : Pre bad w wx s1 cs1 v l) {i : Nat} {u : Value} (hf : ∀ F, StIs F cs1 s1 → StIs F (cs1.setIfInBounds i u) s2) : Pre bad w (wx.setCell ⟨w.heap.size, i, none⟩ u) s2 (cs1.setIfInBounds i u) v l :=
  ⟨heap_set_bm h.b1 i u, (set_other (by omega)).trans h.b2, fun F hF => hf F (h.st F hF), own_keep h.own fun g hg => set_other (by have := (own_lt h.own hg).1; omega), h.x.setCell (p := ⟨w.heap.size, i, none⟩) (Nat.le_refl _) u⟩
theorem Pre.ext (h : Pre bad w wx s1 cs1 v l) (x : Ext wx w2) : Pre bad w w2 s1 cs1 v l :=
  ⟨ext_heap x h.b1, ext_heap x h.b2, h.st, own_keep h.own fun g hg => x.block g (own_lt h.own hg).2, h.x.trans x⟩
theorem own_far {B : Nat} (ho : wx.ownsRow (B + 2) 25 1 v l.length (l.map (Value.int .u16))) {g : Nat} (hg : g < B + 2) : v.ownBlock ≠ some g := fun e => by have := (own_lt ho e).1; omega
theorem Pre.row (h : Pre bad w wx s1 cs1 v l) (ho : w2.ownsRow (w.heap.size + 2) 25 1 v' l'.length (l'.map (Value.int .u16))) (hg : wx.grownBy w2 v.ownBlock) : Pre bad w w2 s1 cs1 v' l' := by
  have hlt := h.lt
  have hk : ∀ g, g < w.heap.size + 2 → w2.heap[g]? = wx.heap[g]? := fun g hgl => hg.block g (by omega) fun e => own_far h.own hgl e.symm
  exact ⟨(hk _ (by omega)).trans h.b1, (hk _ (by omega)).trans h.b2, h.st, ho, ⟨hg.os.trans h.x.os, hg.tape.trans h.x.tape, hg.output.trans h.x.output, Nat.le_trans h.x.size hg.size, fun g hgl => (hk g (by omega)).trans (h.x.block g hgl)⟩⟩
theorem Pre.take (h : Pre bad w wx s1 cs1 v l) (ho : wx.ownsRow (w.heap.size + 2) 25 1 v' l'.length (l'.map (Value.int .u16))) : Pre bad w wx s1 cs1 v' l' := ⟨h.b1, h.b2, h.st, ho, h.x⟩
theorem Mid.take (h : Mid bad w wx s1 cs1 v l) (ho : wx.ownsRow (w.heap.size + 2) 25 1 v' l'.length (l'.map (Value.int .u16))) : Mid bad w wx s1 cs1 v' l' := ⟨h.b1, h.b2, h.st, ho, h.x⟩
/-- A field takes a slice that lies in the blocks of now. -/
theorem Mid.set (h : Mid bad w wx s1 cs1 v l) {i : Nat} {u : Value} (hf : ∀ F, Agr bad w.heap.size wx F → StIs F cs1 s1 → StIs F (cs1.setIfInBounds i u) s2) : Mid bad w (wx.setCell ⟨w.heap.size, i, none⟩ u) s2 (cs1.setIfInBounds i u) v l := by
  refine ⟨heap_set_bm h.b1 i u, (set_other (by omega)).trans h.b2, fun F hF => ?_, own_keep h.own fun g hg => set_other (by have := (own_lt h.own hg).1; omega), h.x.setCell (p := ⟨w.heap.size, i, none⟩) (Nat.le_refl _) u⟩
  have hA : Agr bad w.heap.size wx F := fun g h1 h2 h3 h4 => (hF g h1 h2 h3 (by simpa [World.setCell] using h4)).trans (set_other h2)
  exact hf F hA (h.st F hA)
theorem Mid.ext (h : Mid bad w wx s1 cs1 v l) (x : Ext wx w2) : Mid bad w w2 s1 cs1 v l :=
  ⟨ext_heap x h.b1, ext_heap x h.b2, fun F hF => h.st F fun g h1 h2 h3 h4 => (hF g h1 h2 h3 (Nat.lt_of_lt_of_le h4 x.size)).trans (x.block g h4), own_keep h.own fun g hg => x.block g (own_lt h.own hg).2, h.x.trans x⟩
/-- A row of the call's own reads in every world that agrees. -/
theorem own_agr {e : TypeId} {k : IntKind} {u : Value} {r : List Int} {F : World} (hbad : ∀ g, bad g → g < w.heap.size) (ho : wx.ownsRow (w.heap.size + 2) e 1 u r.length (r.map (Value.int k))) (hF : Agr bad w.heap.size wx F) : SlAt F k (some u) r :=
  own_at ho fun g hg hl => hF g (fun hb => by have := hbad g hb; omega) (by omega) (by omega) hl
theorem Mid.fin (h : Mid bad w wx s1 cs1 v l) (hbad : ∀ g, bad g → g < w.heap.size) (hl : Half l) (he : { s1 with data := l } = s2) :
    SpRet bad w s2 (.returned (.agg (cs1.setIfInBounds 2 v))) ((wx.setCell ⟨w.heap.size, 2, none⟩ v).setRow (w.heap.size + 1) (cs1.setIfInBounds 2 v)) := by
  refine ⟨_, rfl, fun F hF => ?_, (h.x.setCell (p := ⟨w.heap.size, 2, none⟩) (Nat.le_refl _) v).setRow (by omega) _⟩
  have hA : Agr bad w.heap.size wx F := fun g h1 h2 h3 h4 => by
    rw [hF g h1 (by simpa [World.setCell, World.setRow] using h4), setRow_other _ _ _ _ h3, set_other h2]
  rw [← he]
  exact data_set (h.st F hA) (own_agr hbad h.own hA) hl
end
end Go.Proofs.YtpooedfchjpndaaDoor
