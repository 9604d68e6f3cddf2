import Derived.Test.YtpooedfchjpndaaDoorStepRa
import Derived.Test.YtpooedfchjpndaaDoorStream
namespace Go.Proofs.YtpooedfchjpndaaDoor
open Go Go.Proofs Go.RowKit
/-- Pre, ahead of the copy of the stack. -/
structure P0 (bad : Nat → Prop) (w wx : World) (s1 : St) (cs1 : Array Value) : Prop where
  b1 : wx.heap[w.heap.size]? = some (.cells cs1 28 (0, 0))
  b2 : wx.heap[w.heap.size + 1]? = some (.cells zeroSt 28 (0, 0))
  st : ∀ F : World, (∀ g, ¬ bad g → g < w.heap.size → F.heap[g]? = w.heap[g]?) → StIs F cs1 s1
  x : Ext w wx
section
variable {bad : Nat → Prop} {w wx w2 : World} {s1 s2 : St} {cs1 : Array Value} {v : Value} {l : List Int}
theorem P0.set (h : P0 bad w wx s1 cs1) {i : Nat} {u : Value} (hf : ∀ F, StIs F cs1 s1 → StIs F (cs1.setIfInBounds i u) s2) : P0 bad w (wx.setCell ⟨w.heap.size, i, none⟩ u) s2 (cs1.setIfInBounds i u) :=
  ⟨heap_set_bm h.b1 i u, (set_other (by omega)).trans h.b2, fun F hF => hf F (h.st F hF), h.x.setCell (p := ⟨w.heap.size, i, none⟩) (Nat.le_refl _) u⟩
theorem P0.ext (h : P0 bad w wx s1 cs1) (x : Ext wx w2) : P0 bad w w2 s1 cs1 := ⟨ext_heap x h.b1, ext_heap x h.b2, h.st, h.x.trans x⟩
theorem P0.lt (h : P0 bad w wx s1 cs1) : w.heap.size + 1 < wx.heap.size := (Array.getElem?_eq_some_iff.1 h.b2).1
theorem P0.is (h : P0 bad w wx s1 cs1) : StIs wx cs1 s1 := h.st wx fun g _ hl => h.x.block g hl
theorem Pre.is (h : Pre bad w wx s1 cs1 v l) : StIs wx cs1 s1 := h.st wx fun g _ hl => h.x.block g hl
theorem Mid.is (h : Mid bad w wx s1 cs1 v l) : StIs wx cs1 s1 := h.st wx fun _ _ _ _ _ => rfl
theorem P0.row (h : P0 bad w wx s1 cs1) (ho : w2.ownsRow (w.heap.size + 2) 25 1 v l.length (l.map (Value.int .u16))) (hg : wx.grownBy w2 none) : Pre bad w w2 s1 cs1 v l := by
  have hlt := h.lt
  have hk : ∀ g, g < wx.heap.size → w2.heap[g]? = wx.heap[g]? := fun g hgl => hg.block g hgl (by simp)
  exact ⟨(hk _ (by omega)).trans h.b1, (hk _ (by omega)).trans h.b2, h.st, ho, ⟨hg.os.trans h.x.os, hg.tape.trans h.x.tape, hg.output.trans h.x.output, Nat.le_trans h.x.size hg.size, fun g hgl => (hk g (Nat.lt_of_lt_of_le hgl h.x.size)).trans (h.x.block g hgl)⟩⟩
theorem two2_p0 {cs : Array Value} {s : St} (h : StAv bad w cs s) (ht : Two2 w wx cs) : P0 bad w wx s cs := ⟨ht.b1, ht.b2, h, ht.x⟩
end
theorem wp_world {P : Program} {c : Code} {Q : Exit → Act → World → Prop} {a : Act} {W : World} (R : World → Prop) (h : R W) (k : ∀ wx, R wx → Code.wp P c Q a wx) : Code.wp P c Q a W := k W h
/-- What a step is, when nothing stops it. -/
theorem stepF_go {s : St} (hz : stopOf s = 0) {k : Int} (hk : opOf s = k) :
    stepF s = { (effF { s with at_ := s.at_ + 1 + sizeOp k, data := s.data.take (s.data.length - (takesOf k).toNat) } k (operandF s) (topF s.data 1) (topF s.data 0)).2 with data := (effF { s with at_ := s.at_ + 1 + sizeOp k, data := s.data.take (s.data.length - (takesOf k).toNat) } k (operandF s) (topF s.data 1) (topF s.data 0)).2.data ++ (effF { s with at_ := s.at_ + 1 + sizeOp k, data := s.data.take (s.data.length - (takesOf k).toNat) } k (operandF s) (topF s.data 1) (topF s.data 0)).1 } := by
  unfold stepF
  rw [if_pos hz, hk]
/-- What is known of a state that goes on. -/
structure GoesOn (s : St) (x : Int) : Prop where
  op : opOf s = x
  x0 : 0 ≤ x
  x1 : x < 24
  at0 : 0 ≤ s.at_
  lt : s.at_ < s.image.length
  img : s.at_ + 1 + sizeOp x ≤ s.image.length
  dl : takesOf x ≤ s.data.length
  du : (s.data.length : Int) - takesOf x + leavesOf x ≤ 16
  r19 : x = 19 → s.ret.length ≠ 0
  r18 : x = 18 → s.ret.length < 8
  mm : x = 20 ∨ x = 21 → topF s.data 0 < 32
  dv : x = 9 ∨ x = 10 → topF s.data 0 ≠ 0
  out : x = 23 → s.output.length < 1000
theorem goesOn {s : St} (h : OkSt s) (hz : stopOf s = 0) : GoesOn s (opOf s) := by
  have h1 : ¬ (s.image.length : Int) ≤ s.at_ := by
    intro hc; unfold stopOf at hz; rw [if_pos hc] at hz; omega
  have h2 : ¬ 24 ≤ opOf s := by
    intro hc; unfold stopOf at hz; rw [if_neg h1, if_pos hc] at hz; omega
  have hso := stop_obst h1 h2
  rw [hz] at hso
  have hx0 := byte_range h s.at_.toNat
  have hx : 0 ≤ opOf s ∧ opOf s < 256 := hx0
  obtain ⟨x, hxe⟩ : ∃ x, opOf s = x := ⟨_, rfl⟩
  rw [hxe] at hso hx h2 ⊢
  have hall : ¬ (s.image.length : Int) < s.at_ + 1 + sizeOp x ∧ ¬ (s.data.length : Int) < takesOf x ∧ ¬ (x = 19 ∧ s.ret.length = 0) ∧ ¬ 16 < (s.data.length : Int) - takesOf x + leavesOf x ∧ ¬ (x = 18 ∧ 8 ≤ s.ret.length) ∧ ¬ ((x = 20 ∨ x = 21) ∧ 32 ≤ topF s.data 0) ∧ ¬ ((x = 9 ∨ x = 10) ∧ topF s.data 0 = 0) ∧ ¬ (x = 23 ∧ 1000 ≤ s.output.length) := by
    unfold obstF at hso
    repeat' split at hso
    all_goals first | (exfalso; omega) | (refine ⟨?_, ?_, ?_, ?_, ?_, ?_, ?_, ?_⟩ <;> omega)
  obtain ⟨k1, k2, k3, k4, k5, k6, k7, k8⟩ := hall
  have := h.at0
  exact ⟨hxe, hx.1, by omega, by omega, by omega, by omega, by omega, by omega, by omega, by omega, by omega, by omega, by omega⟩
theorem top_at {l : List Int} {i : Nat} {x : Int} (h : l[l.length - 1 - i]? = some x) (hi : i < l.length) : topF l i = x := by
  unfold topF; rw [if_pos hi, h]; rfl
theorem take_top {l : List Int} {x : Int} (h : l[l.length - 1]? = some x) : l.take (l.length - 1) ++ [x] = l := by
  obtain ⟨h1, rfl⟩ := List.getElem?_eq_some_iff.1 h
  rw [← List.take_succ_eq_append_getElem h1, List.take_of_length_le (by omega)]
theorem take_top2 {l : List Int} {x y : Int} (h : l[l.length - 1]? = some x) (h' : l[l.length - 2]? = some y) (hl : 2 ≤ l.length) : l.take (l.length - 2) ++ [y, x] = l := by
  obtain ⟨h1, rfl⟩ := List.getElem?_eq_some_iff.1 h
  obtain ⟨h2, rfl⟩ := List.getElem?_eq_some_iff.1 h'
  have e : l.take (l.length - 2) ++ [l[l.length - 2]] = l.take (l.length - 1) := by
    rw [← List.take_succ_eq_append_getElem h2]; congr 1; omega
  have e2 : l.take (l.length - 1) ++ [l[l.length - 1]] = l := take_top h
  rw [← e, List.append_assoc] at e2
  exact e2
theorem own_head {w : World} {base : Nat} {e : TypeId} {A : Option Addr} {n c : Nat} {xs : List Value} (h : w.ownsRow base e 1 (.slice A n c) n xs) (hn : 0 < n) : ∃ g, A = some ⟨g, 0, none⟩ ∧ base ≤ g := by
  rcases h.2 with ⟨h', _⟩ | ⟨g', cap', cur, h', hb, _⟩
  · injection h' with _ h1 _; omega
  · injection h' with h1 _ _; exact ⟨g', h1, hb⟩
theorem cut_own {w : World} {base : Nat} {e : TypeId} {k : IntKind} {A : Option Addr} {c : Nat} {l : List Int} (h : w.ownsRow base e 1 (.slice A l.length c) l.length (l.map (Value.int k))) {m : Nat} (hm : m ≤ l.length) : w.ownsRow base e 1 (.slice A m c) (l.take m).length ((l.take m).map (Value.int k)) := by
  obtain ⟨A', c', he, _, ho, _⟩ := own_take h hm
  injection he with h1 _ h3
  subst h1; subst h3
  rw [List.length_take, Nat.min_eq_left hm, List.map_take]
  exact ho
section
variable {bad : Nat → Prop} {w wx w2 : World} {s1 s2 : St} {cs1 : Array Value} {v : Value} {l : List Int}
theorem Pre.cut {A : Option Addr} {c : Nat} (h : Pre bad w wx s1 cs1 (.slice A l.length c) l) {m : Nat} (hm : m ≤ l.length) : Pre bad w wx s1 cs1 (.slice A m c) (l.take m) := h.take (cut_own h.own hm)
theorem Mid.cut {A : Option Addr} {c : Nat} (h : Mid bad w wx s1 cs1 (.slice A l.length c) l) {m : Nat} (hm : m ≤ l.length) : Mid bad w wx s1 cs1 (.slice A m c) (l.take m) := h.take (cut_own h.own hm)
theorem Pre.store {g c : Nat} (h : Pre bad w wx s1 cs1 (.slice (some ⟨g, 0, none⟩) l.length c) l) (j : Nat) (x : Int) : Pre bad w (wx.setCell ⟨g, j, none⟩ (.int .u16 x)) s1 cs1 (.slice (some ⟨g, 0, none⟩) l.length c) (l.set j x) := by
  obtain ⟨h1, h2⟩ := h.own.stored j (.int .u16 x)
  refine h.row ?_ h2
  rw [List.length_set, List.map_set]
  exact h1
theorem Pre.side (h : Pre bad w wx s1 cs1 v l) {e : TypeId} {u : Value} {n : Nat} {xs : List Value} (ho : wx.ownsRow (w.heap.size + 2) e 1 u n xs) (he : e ≠ 25) (hg : wx.grownBy w2 u.ownBlock) : Pre bad w w2 s1 cs1 v l := by
  have hlt := h.lt
  have hk : ∀ g, g < w.heap.size + 2 → w2.heap[g]? = wx.heap[g]? := fun g hgl => hg.block g (by omega) fun e' => by have := (own_lt ho e'.symm).1; omega
  exact ⟨(hk _ (by omega)).trans h.b1, (hk _ (by omega)).trans h.b2, h.st, own_keep h.own fun g hg' => hg.block g (own_lt h.own hg').2 (fun e' => ne_of_own_own ho h.own he hg' e'.symm), ⟨hg.os.trans h.x.os, hg.tape.trans h.x.tape, hg.output.trans h.x.output, Nat.le_trans h.x.size hg.size, fun g hgl => (hk g (by omega)).trans (h.x.block g hgl)⟩⟩
end
theorem grown_ext {w w' : World} (h : w.grownBy w' none) : Ext w w' := ⟨h.os, h.tape, h.output, h.size, fun g hl => h.block g hl (by simp)⟩
theorem slAt_take {F : World} {k : IntKind} {A : Option Addr} {n c m : Nat} {l : List Int} (h : SlAt F k (some (.slice A n c)) l) (hm : m ≤ l.length) : SlAt F k (some (.slice A m c)) (l.take m) := by
  obtain ⟨A', c', h1, h2, h3, h4, h5⟩ := h
  injection h1 with h1
  injection h1 with e1 e2 e3
  subst e1; subst e3
  refine ⟨A, c, by rw [List.length_take, Nat.min_eq_left hm], by rw [List.length_take]; omega, h3, h4, Sl.mk fun i x hx => ?_⟩
  rw [List.getElem?_take] at hx
  split at hx
  · exact h5.one hx
  · cases hx
theorem set_two {l : List Int} {u v : Int} (hl : 2 ≤ l.length) : (l.set (l.length - 2) u).set (l.length - 1) v = l.take (l.length - 2) ++ [u, v] := by
  have h := take_top2 (l := l) (x := l[l.length - 1]'(by omega)) (y := l[l.length - 2]'(by omega)) (List.getElem?_eq_getElem _) (List.getElem?_eq_getElem _) hl
  obtain ⟨m, y, x, rfl⟩ : ∃ m y x, l = m ++ [y, x] := ⟨_, _, _, h.symm⟩
  have e1 : (m ++ [y, x]).length - 2 = m.length := by simp
  have e2 : (m ++ [y, x]).length - 1 = m.length + 1 := by simp
  rw [e1, e2, List.set_append_right _ _ (Nat.le_refl _), List.set_append_right _ _ (by omega)]
  simp
theorem set_one {l : List Int} {u : Int} (hl : 1 ≤ l.length) : l.set (l.length - 1) u = l.take (l.length - 1) ++ [u] := by
  have h := take_top (l := l) (x := l[l.length - 1]'(by omega)) (List.getElem?_eq_getElem _)
  obtain ⟨m, x, rfl⟩ : ∃ m x, l = m ++ [x] := ⟨_, _, h.symm⟩
  have e1 : (m ++ [x]).length - 1 = m.length := by simp
  rw [e1, List.set_append_right _ _ (Nat.le_refl _)]
  simp
theorem takes_mid {x : Int} (h : 6 ≤ x ∧ x ≤ 15) : takesOf x = 2 := by
  obtain rfl | rfl | rfl | rfl | rfl | rfl | rfl | rfl | rfl | rfl : x = 6 ∨ x = 7 ∨ x = 8 ∨ x = 9 ∨ x = 10 ∨ x = 11 ∨ x = 12 ∨ x = 13 ∨ x = 14 ∨ x = 15 := by omega
  all_goals rfl
theorem st_eq {a b : St} (h1 : a.image = b.image) (h2 : a.at_ = b.at_) (h3 : a.data = b.data) (h4 : a.ret = b.ret) (h5 : a.mem = b.mem) (h6 : a.input = b.input) (h7 : a.output = b.output) (h8 : a.stop = b.stop) : a = b := by
  cases a; cases b; simp_all
theorem s2_ext {w w' : World} {A : Option Addr} {l : List Int} (h : Sl w .u16 A l) (x : Ext w w') : SlC w' A (l.map (Value.int .u16)) := h.ext x
end Go.Proofs.YtpooedfchjpndaaDoor
