import Derived.Test.YtpooedfchjpndaaDoorModel
namespace Go.Proofs.YtpooedfchjpndaaDoor
open Go Go.RowKit
theorem block_add (a : Addr) (n : Nat) : (a.add n).block = a.block := by unfold Addr.add; split <;> rfl
/-- A slice that reads as these cells, none of them in a bad block. -/
def SlF (w : World) (A : Option Addr) (xs : List Value) (bad : Nat → Prop) : Prop :=
  ∀ i u, xs[i]? = some u → ∃ a, A = some a ∧ w.cell? (a.add i) = some u ∧ ¬ bad a.block
theorem SlF.sl {w : World} {A : Option Addr} {xs : List Value} {bad : Nat → Prop} (h : SlF w A xs bad) : SlC w A xs := by
  intro i u hu
  obtain ⟨a, h1, h2, _⟩ := h i u hu
  exact ⟨a, h1, h2⟩
theorem SlF.keep {w w' : World} {A : Option Addr} {xs : List Value} {bad bad' : Nat → Prop} (h : SlF w A xs bad)
    (hk : ∀ g, ¬ bad g → g < w.heap.size → w'.heap[g]? = w.heap[g]?) (hb : ∀ g, g < w.heap.size → bad' g → bad g) : SlF w' A xs bad' := by
  intro i u hu
  obtain ⟨a, h1, h2, h3⟩ := h i u hu
  have hlt := World.block_lt_of_cell? w _ h2
  rw [block_add] at hlt
  refine ⟨a, h1, ?_, fun hb' => h3 (hb _ hlt hb')⟩
  rw [World.cell?_of_block (w := w) (by rw [block_add]; exact hk _ h3 hlt)]
  exact h2
/-- A field that holds a slice of integers, away from the machine's own rows. -/
def SlFAt (w : World) (k : IntKind) (o : Option Value) (l : List Int) (bad : Nat → Prop) : Prop :=
  ∃ A c, o = some (.slice A l.length c) ∧ l.length ≤ c ∧ c ≤ maxLen ∧ (A = none → c = 0) ∧ SlF w A (l.map (Value.int k)) bad
theorem SlFAt.keep {w w' : World} {k : IntKind} {o : Option Value} {l : List Int} {bad bad' : Nat → Prop} (h : SlFAt w k o l bad)
    (hk : ∀ g, ¬ bad g → g < w.heap.size → w'.heap[g]? = w.heap[g]?) (hb : ∀ g, g < w.heap.size → bad' g → bad g) : SlFAt w' k o l bad' := by
  obtain ⟨A, c, h1, h2, h3, h4, h5⟩ := h
  exact ⟨A, c, h1, h2, h3, h4, h5.keep hk hb⟩
def Bad (bm : Nat) (vd vr vo : Value) (g : Nat) : Prop := g ≤ bm ∨ vd.ownBlock = some g ∨ vr.ownBlock = some g ∨ vo.ownBlock = some g
/-- The machine's block: what its fields hold. -/
structure MachIs (w : World) (bm : Nat) (s : St) (cs : Array Value) (vd vr vo : Value) : Prop where
  blk : w.heap[bm]? = some (.cells cs 53 (0, 0))
  size : cs.size = 39
  image : SlFAt w .u8 cs[0]? s.image (Bad bm vd vr vo)
  at_ : cs[1]? = some (.int .i64 s.at_)
  data : cs[2]? = some vd
  datao : w.ownsRow bm 25 1 vd s.data.length (s.data.map (Value.int .u16))
  ret : cs[3]? = some vr
  reto : w.ownsRow bm 3 1 vr s.ret.length (s.ret.map (Value.int .i64))
  mem : ∀ i, i < 32 → cs[4 + i]? = some (.int .u16 (s.mem[i]?.getD 0))
  input : SlFAt w .u8 cs[36]? s.input (Bad bm vd vr vo)
  output : cs[37]? = some vo
  outputo : w.ownsRow bm 5 1 vo s.output.length (s.output.map (Value.int .u8))
  stop : cs[38]? = some (.int .i64 s.stop)
  memlen : s.mem.length = 32
section
variable {w w' : World} {bm : Nat} {s : St} {cs : Array Value} {vd vr vo : Value}
theorem own_ne {base g : Nat} {e t : TypeId} {size n : Nat} {v : Value} {xs : List Value} {cs : Array Value} {fr : Nat × Nat} (h : w.ownsRow base e size v n xs) (hg : w.heap[g]? = some (.cells cs t fr)) (hne : e ≠ t) : v.ownBlock ≠ some g := by
  rcases h.2 with ⟨rfl, _⟩ | ⟨g', cap, cur, rfl, _, hh, _⟩
  · simp [Value.ownBlock]
  · intro he
    have : g' = g := by simpa [Value.ownBlock] using he
    subst this
    rw [hh] at hg
    injection hg with hg
    injection hg with _ ht
    exact hne ht
theorem own_own_ne {base base' : Nat} {e t : TypeId} {size size' n n' : Nat} {v v' : Value} {xs xs' : List Value} (h : w.ownsRow base e size v n xs) (h' : w.ownsRow base' t size' v' n' xs') (hne : e ≠ t) : v.ownBlock = none ∨ v.ownBlock ≠ v'.ownBlock := by
  rcases h'.2 with ⟨rfl, _⟩ | ⟨g', cap, cur, rfl, _, hh, _⟩
  · cases hv : v.ownBlock <;> simp [Value.ownBlock]
  · right
    have := own_ne h hh hne
    simpa [Value.ownBlock] using this
theorem own_lt {base : Nat} {e : TypeId} {size n : Nat} {v : Value} {xs : List Value} (h : w.ownsRow base e size v n xs) {g : Nat} (hg : v.ownBlock = some g) : base ≤ g ∧ g < w.heap.size := h.lt g hg
theorem own_keep {base : Nat} {e : TypeId} {size n : Nat} {v : Value} {xs : List Value} (h : w.ownsRow base e size v n xs) (hk : ∀ g, v.ownBlock = some g → w'.heap[g]? = w.heap[g]?) : w'.ownsRow base e size v n xs := by
  refine ⟨h.1, ?_⟩
  rcases h.2 with hn | ⟨g, cap, cur, rfl, hb, hgg, rest⟩
  · exact .inl hn
  · exact .inr ⟨g, cap, cur, rfl, hb, by rw [hk g rfl]; exact hgg, rest⟩
/-- All that the machine owns lies as it lay. -/
theorem MachIs.keep (h : MachIs w bm s cs vd vr vo) (hk : ∀ g, g < w.heap.size → w'.heap[g]? = w.heap[g]?) : MachIs w' bm s cs vd vr vo := by
  have hlt : bm < w.heap.size := (Array.getElem?_eq_some_iff.1 h.blk).1
  exact ⟨by rw [hk _ hlt]; exact h.blk, h.size, h.image.keep (fun g _ hg => hk g hg) (fun _ _ x => x), h.at_, h.data, own_keep h.datao (fun g hg => hk g (own_lt h.datao hg).2), h.ret, own_keep h.reto (fun g hg => hk g (own_lt h.reto hg).2), h.mem, h.input.keep (fun g _ hg => hk g hg) (fun _ _ x => x), h.output, own_keep h.outputo (fun g hg => hk g (own_lt h.outputo hg).2), h.stop, h.memlen⟩
theorem MachIs.ext (h : MachIs w bm s cs vd vr vo) (e : Ext w w') : MachIs w' bm s cs vd vr vo := h.keep fun g hg => e.block g hg
theorem MachIs.alloc (h : MachIs w bm s cs vd vr vo) (o : Obj) : MachIs (w.alloc o) bm s cs vd vr vo := h.ext ((Ext.refl w).alloc o)
theorem MachIs.drewN (h : MachIs w bm s cs vd vr vo) (n : Nat) : MachIs (w.drewN n) bm s cs vd vr vo := h.ext ((Ext.refl w).drewN n)
theorem MachIs.lt (h : MachIs w bm s cs vd vr vo) : bm < w.heap.size := (Array.getElem?_eq_some_iff.1 h.blk).1
theorem MachIs.cell (h : MachIs w bm s cs vd vr vo) (i : Nat) : w.cell? ⟨bm, i, none⟩ = cs[i]? := cell_of_row w bm i cs 53 (0, 0) h.blk
theorem MachIs.frozen (h : MachIs w bm s cs vd vr vo) (i : Nat) : w.frozen? ⟨bm, i, none⟩ = false := by simp [World.frozen?, h.blk]
theorem heap_set_self (h : w.heap[bm]? = some (.cells cs 53 (0, 0))) (i : Nat) (u : Value) : (w.setCell ⟨bm, i, none⟩ u).heap[bm]? = some (.cells (cs.setIfInBounds i u) 53 (0, 0)) := by
  simp [World.setCell, Array.getElem?_modify, h]
theorem getD_set {i j : Nat} {u : Value} : (cs.setIfInBounds i u)[j]? = if i = j then (if i < cs.size then some u else none) else cs[j]? := by
  rw [Array.getElem?_setIfInBounds]
theorem MachIs.set (h : MachIs w bm s cs vd vr vo) (i : Nat) (u : Value) (_hi : i < 39) (s' : St) 
    (e0 : i ≠ 0 ∧ s'.image = s.image) (e1 : (if i = 1 then some u else some (.int .i64 s.at_)) = some (.int .i64 s'.at_)) (e2 : i ≠ 2 ∧ s'.data = s.data) (e3 : i ≠ 3 ∧ s'.ret = s.ret)
    (em : ∀ k, k < 32 → (if i = 4 + k then some u else some (.int .u16 (s.mem[k]?.getD 0))) = some (.int .u16 (s'.mem[k]?.getD 0))) (eml : s'.mem.length = 32)
    (e5 : i ≠ 36 ∧ s'.input = s.input) (e6 : i ≠ 37 ∧ s'.output = s.output) (e7 : (if i = 38 then some u else some (.int .i64 s.stop)) = some (.int .i64 s'.stop)) :
    MachIs (w.setCell ⟨bm, i, none⟩ u) bm s' (cs.setIfInBounds i u) vd vr vo := by
  have hsz := h.size
  have hk : ∀ g, g ≠ bm → (w.setCell ⟨bm, i, none⟩ u).heap[g]? = w.heap[g]? := fun g hg => Below.heap_setCell w ⟨bm, i, none⟩ u g hg
  have hkb : ∀ g, ¬ Bad bm vd vr vo g → g < w.heap.size → (w.setCell ⟨bm, i, none⟩ u).heap[g]? = w.heap[g]? := fun g hg _ => hk g (fun e => hg (.inl (Nat.le_of_eq e)))
  refine ⟨heap_set_self h.blk i u, by simpa using hsz, ?_, ?_, ?_, ?_, ?_, ?_, ?_, ?_, ?_, ?_, ?_, eml⟩
  · rw [e0.2, getD_set, if_neg e0.1]; exact h.image.keep hkb (fun _ _ x => x)
  · rw [getD_set, ← e1, h.at_]; split
    · rw [if_pos (by omega)]
    · rfl
  · rw [getD_set, if_neg e2.1]; exact h.data
  · rw [e2.2]; exact own_keep h.datao fun g hg => hk g (fun e => own_ne h.datao h.blk (by decide) (by rw [hg, e]))
  · rw [getD_set, if_neg e3.1]; exact h.ret
  · rw [e3.2]; exact own_keep h.reto fun g hg => hk g (fun e => own_ne h.reto h.blk (by decide) (by rw [hg, e]))
  · intro k hk'; rw [getD_set, ← em k hk', h.mem k hk']; split
    · rw [if_pos (by omega)]
    · rfl
  · rw [e5.2, getD_set, if_neg e5.1]; exact h.input.keep hkb (fun _ _ x => x)
  · rw [getD_set, if_neg e6.1]; exact h.output
  · rw [e6.2]; exact own_keep h.outputo fun g hg => hk g (fun e => own_ne h.outputo h.blk (by decide) (by rw [hg, e]))
  · rw [getD_set, ← e7, h.stop]; split
    · rw [if_pos (by omega)]
    · rfl
end
end Go.Proofs.YtpooedfchjpndaaDoor
