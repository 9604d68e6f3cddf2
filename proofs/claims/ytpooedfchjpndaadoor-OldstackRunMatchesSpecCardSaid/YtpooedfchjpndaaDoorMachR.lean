import Derived.Test.YtpooedfchjpndaaDoorMachL
namespace Go.Proofs.YtpooedfchjpndaaDoor
open Go Go.RowKit
section
variable {w w1 : World} {bm : Nat} {s : St} {cs : Array Value} {vd vr vo : Value}
theorem own_take {base : Nat} {e : TypeId} {v : Value} {n : Nat} {xs : List Value} (h : w.ownsRow base e 1 v n xs) {m : Nat} (hm : m ≤ n) :
    ∃ A c, v = .slice A n c ∧ n ≤ c ∧ w.ownsRow base e 1 (.slice A m c) m (xs.take m) ∧ (Value.slice A m c).ownBlock = v.ownBlock := by
  have hl := h.1
  rcases h.2 with ⟨rfl, rfl⟩ | ⟨g, cap, cur, rfl, hb, hg, hn, hmx, hc, ht⟩
  · obtain rfl : m = 0 := by omega
    exact ⟨none, 0, rfl, Nat.le_refl _, ⟨by simp, .inl ⟨rfl, rfl⟩⟩, rfl⟩
  · refine ⟨some ⟨g, 0, none⟩, cap, rfl, hn, ⟨by simp; omega, .inr ⟨g, cap, cur, rfl, hb, hg, by omega, hmx, hc, ?_⟩⟩, rfl⟩
    rw [← ht, List.take_take, Nat.mul_one, Nat.mul_one, Nat.min_eq_left hm]
/-- A row of the machine has been replaced by another one, in its place or new. -/
structure RowTo (w w1 : World) (bm : Nat) (e : TypeId) (v v' : Value) (n : Nat) (xs : List Value) : Prop where
  own : w1.ownsRow bm e 1 v' n xs
  grown : w.grownBy w1 v.ownBlock
  at_ : v'.ownBlock = v.ownBlock ∨ ∃ g, v'.ownBlock = some g ∧ w.heap.size ≤ g
theorem RowTo.block {e : TypeId} {v v' : Value} {n : Nat} {xs : List Value} (h : RowTo w w1 bm e v v' n xs) {g : Nat} (hg : g < w.heap.size) (hne : v.ownBlock ≠ some g) : w1.heap[g]? = w.heap[g]? :=
  h.grown.block g hg (fun e => hne e.symm)
theorem RowTo.old {e : TypeId} {v v' : Value} {n : Nat} {xs : List Value} (h : RowTo w w1 bm e v v' n xs) {g : Nat} (hg : g < w.heap.size) (hv : v'.ownBlock = some g) : v.ownBlock = some g := by
  rcases h.at_ with h1 | ⟨g', h1, h2⟩
  · rw [← h1]; exact hv
  · rw [h1] at hv; cases hv; omega
theorem ne_of_own_own {base base' : Nat} {e t : TypeId} {size size' n n' : Nat} {v v' : Value} {xs xs' : List Value} (h : w.ownsRow base e size v n xs) (h' : w.ownsRow base' t size' v' n' xs') (hne : e ≠ t) {g : Nat} (hg : v'.ownBlock = some g) : v.ownBlock ≠ some g := by
  rcases own_own_ne h h' hne with h1 | h1
  · rw [h1]; simp
  · rw [← hg]; exact h1
theorem MachIs.newRet (h : MachIs w bm s cs vd vr vo) {vr' : Value} {r : List Int} (hr : RowTo w w1 bm 3 vr vr' r.length (r.map (Value.int .i64))) :
    MachIs (w1.setCell ⟨bm, 3, none⟩ vr') bm { s with ret := r } (cs.setIfInBounds 3 vr') vd vr' vo := by
  have hsz := h.size
  have hblk1 : w1.heap[bm]? = some (.cells cs 53 (0, 0)) := by rw [hr.block h.lt (own_ne h.reto h.blk (by decide))]; exact h.blk
  have hk : ∀ g, g ≠ bm → (w1.setCell ⟨bm, 3, none⟩ vr').heap[g]? = w1.heap[g]? := fun g hg => Below.heap_setCell w1 ⟨bm, 3, none⟩ vr' g hg
  have hkb : ∀ g, ¬ Bad bm vd vr vo g → g < w.heap.size → (w1.setCell ⟨bm, 3, none⟩ vr').heap[g]? = w.heap[g]? := fun g hg hlt => by
    rw [hk g (fun e => hg (.inl (Nat.le_of_eq e))), hr.block hlt (fun e => hg (.inr (.inr (.inl e))))]
  have hbb : ∀ g, g < w.heap.size → Bad bm vd vr' vo g → Bad bm vd vr vo g := fun g hlt hb => by
    rcases hb with hb | hb | hb | hb
    · exact .inl hb
    · exact .inr (.inl hb)
    · exact .inr (.inr (.inl (hr.old hlt hb)))
    · exact .inr (.inr (.inr hb))
  refine ⟨heap_set_self hblk1 3 vr', by simpa using hsz, ?_, ?_, ?_, ?_, ?_, ?_, ?_, ?_, ?_, ?_, ?_, h.memlen⟩
  · rw [getD_set, if_neg (by decide)]; exact h.image.keep hkb hbb
  · rw [getD_set, if_neg (by decide)]; exact h.at_
  · rw [getD_set, if_neg (by decide)]; exact h.data
  · exact own_keep h.datao fun g hg => by
      rw [hk g (fun e => own_ne h.datao h.blk (by decide) (by rw [hg, e])), hr.block (own_lt h.datao hg).2 (ne_of_own_own h.reto h.datao (by decide) hg)]
  · rw [getD_set, if_pos rfl, if_pos (by omega)]
  · exact own_keep hr.own fun g hg => hk g (fun e => own_ne hr.own hblk1 (by decide) (by rw [hg, e]))
  · intro k hk'; rw [getD_set, if_neg (by omega)]; exact h.mem k hk'
  · rw [getD_set, if_neg (by decide)]; exact h.input.keep hkb hbb
  · rw [getD_set, if_neg (by decide)]; exact h.output
  · exact own_keep h.outputo fun g hg => by
      rw [hk g (fun e => own_ne h.outputo h.blk (by decide) (by rw [hg, e])), hr.block (own_lt h.outputo hg).2 (ne_of_own_own h.reto h.outputo (by decide) hg)]
  · rw [getD_set, if_neg (by decide)]; exact h.stop
theorem MachIs.newOut (h : MachIs w bm s cs vd vr vo) {vo' : Value} {r : List Int} (hr : RowTo w w1 bm 5 vo vo' r.length (r.map (Value.int .u8))) :
    MachIs (w1.setCell ⟨bm, 37, none⟩ vo') bm { s with output := r } (cs.setIfInBounds 37 vo') vd vr vo' := by
  have hsz := h.size
  have hblk1 : w1.heap[bm]? = some (.cells cs 53 (0, 0)) := by rw [hr.block h.lt (own_ne h.outputo h.blk (by decide))]; exact h.blk
  have hk : ∀ g, g ≠ bm → (w1.setCell ⟨bm, 37, none⟩ vo').heap[g]? = w1.heap[g]? := fun g hg => Below.heap_setCell w1 ⟨bm, 37, none⟩ vo' g hg
  have hkb : ∀ g, ¬ Bad bm vd vr vo g → g < w.heap.size → (w1.setCell ⟨bm, 37, none⟩ vo').heap[g]? = w.heap[g]? := fun g hg hlt => by
    rw [hk g (fun e => hg (.inl (Nat.le_of_eq e))), hr.block hlt (fun e => hg (.inr (.inr (.inr e))))]
  have hbb : ∀ g, g < w.heap.size → Bad bm vd vr vo' g → Bad bm vd vr vo g := fun g hlt hb => by
    rcases hb with hb | hb | hb | hb
    · exact .inl hb
    · exact .inr (.inl hb)
    · exact .inr (.inr (.inl hb))
    · exact .inr (.inr (.inr (hr.old hlt hb)))
  refine ⟨heap_set_self hblk1 37 vo', by simpa using hsz, ?_, ?_, ?_, ?_, ?_, ?_, ?_, ?_, ?_, ?_, ?_, h.memlen⟩
  · rw [getD_set, if_neg (by decide)]; exact h.image.keep hkb hbb
  · rw [getD_set, if_neg (by decide)]; exact h.at_
  · rw [getD_set, if_neg (by decide)]; exact h.data
  · exact own_keep h.datao fun g hg => by
      rw [hk g (fun e => own_ne h.datao h.blk (by decide) (by rw [hg, e])), hr.block (own_lt h.datao hg).2 (ne_of_own_own h.outputo h.datao (by decide) hg)]
  · rw [getD_set, if_neg (by decide)]; exact h.ret
  · exact own_keep h.reto fun g hg => by
      rw [hk g (fun e => own_ne h.reto h.blk (by decide) (by rw [hg, e])), hr.block (own_lt h.reto hg).2 (ne_of_own_own h.outputo h.reto (by decide) hg)]
  · intro k hk'; rw [getD_set, if_neg (by omega)]; exact h.mem k hk'
  · rw [getD_set, if_neg (by decide)]; exact h.input.keep hkb hbb
  · rw [getD_set, if_pos rfl, if_pos (by omega)]
  · exact own_keep hr.own fun g hg => hk g (fun e => own_ne hr.own hblk1 (by decide) (by rw [hg, e]))
  · rw [getD_set, if_neg (by decide)]; exact h.stop
theorem MachIs.newData (h : MachIs w bm s cs vd vr vo) {vd' : Value} {r : List Int} (hr : RowTo w w1 bm 25 vd vd' r.length (r.map (Value.int .u16))) :
    MachIs (w1.setCell ⟨bm, 2, none⟩ vd') bm { s with data := r } (cs.setIfInBounds 2 vd') vd' vr vo := by
  have hsz := h.size
  have hblk1 : w1.heap[bm]? = some (.cells cs 53 (0, 0)) := by rw [hr.block h.lt (own_ne h.datao h.blk (by decide))]; exact h.blk
  have hk : ∀ g, g ≠ bm → (w1.setCell ⟨bm, 2, none⟩ vd').heap[g]? = w1.heap[g]? := fun g hg => Below.heap_setCell w1 ⟨bm, 2, none⟩ vd' g hg
  have hkb : ∀ g, ¬ Bad bm vd vr vo g → g < w.heap.size → (w1.setCell ⟨bm, 2, none⟩ vd').heap[g]? = w.heap[g]? := fun g hg hlt => by
    rw [hk g (fun e => hg (.inl (Nat.le_of_eq e))), hr.block hlt (fun e => hg (.inr (.inl e)))]
  have hbb : ∀ g, g < w.heap.size → Bad bm vd' vr vo g → Bad bm vd vr vo g := fun g hlt hb => by
    rcases hb with hb | hb | hb | hb
    · exact .inl hb
    · exact .inr (.inl (hr.old hlt hb))
    · exact .inr (.inr (.inl hb))
    · exact .inr (.inr (.inr hb))
  refine ⟨heap_set_self hblk1 2 vd', by simpa using hsz, ?_, ?_, ?_, ?_, ?_, ?_, ?_, ?_, ?_, ?_, ?_, h.memlen⟩
  · rw [getD_set, if_neg (by decide)]; exact h.image.keep hkb hbb
  · rw [getD_set, if_neg (by decide)]; exact h.at_
  · rw [getD_set, if_pos rfl, if_pos (by omega)]
  · exact own_keep hr.own fun g hg => hk g (fun e => own_ne hr.own hblk1 (by decide) (by rw [hg, e]))
  · rw [getD_set, if_neg (by decide)]; exact h.ret
  · exact own_keep h.reto fun g hg => by
      rw [hk g (fun e => own_ne h.reto h.blk (by decide) (by rw [hg, e])), hr.block (own_lt h.reto hg).2 (ne_of_own_own h.datao h.reto (by decide) hg)]
  · intro k hk'; rw [getD_set, if_neg (by omega)]; exact h.mem k hk'
  · rw [getD_set, if_neg (by decide)]; exact h.input.keep hkb hbb
  · rw [getD_set, if_neg (by decide)]; exact h.output
  · exact own_keep h.outputo fun g hg => by
      rw [hk g (fun e => own_ne h.outputo h.blk (by decide) (by rw [hg, e])), hr.block (own_lt h.outputo hg).2 (ne_of_own_own h.datao h.outputo (by decide) hg)]
  · rw [getD_set, if_neg (by decide)]; exact h.stop
/-- The input has been read from its front. -/
theorem MachIs.newIn (h : MachIs w bm s cs vd vr vo) {v' : Value} {r : List Int} (hr : SlFAt w .u8 (some v') r (Bad bm vd vr vo)) :
    MachIs (w.setCell ⟨bm, 36, none⟩ v') bm { s with input := r } (cs.setIfInBounds 36 v') vd vr vo := by
  have hsz := h.size
  have hk : ∀ g, g ≠ bm → (w.setCell ⟨bm, 36, none⟩ v').heap[g]? = w.heap[g]? := fun g hg => Below.heap_setCell w ⟨bm, 36, none⟩ v' g hg
  have hkb : ∀ g, ¬ Bad bm vd vr vo g → g < w.heap.size → (w.setCell ⟨bm, 36, none⟩ v').heap[g]? = w.heap[g]? := fun g hg _ => hk g (fun e => hg (.inl (Nat.le_of_eq e)))
  refine ⟨heap_set_self h.blk 36 v', by simpa using hsz, ?_, ?_, ?_, ?_, ?_, ?_, ?_, ?_, ?_, ?_, ?_, h.memlen⟩
  · rw [getD_set, if_neg (by decide)]; exact h.image.keep hkb (fun _ _ x => x)
  · rw [getD_set, if_neg (by decide)]; exact h.at_
  · rw [getD_set, if_neg (by decide)]; exact h.data
  · exact own_keep h.datao fun g hg => hk g (fun e => own_ne h.datao h.blk (by decide) (by rw [hg, e]))
  · rw [getD_set, if_neg (by decide)]; exact h.ret
  · exact own_keep h.reto fun g hg => hk g (fun e => own_ne h.reto h.blk (by decide) (by rw [hg, e]))
  · intro k hk'; rw [getD_set, if_neg (by omega)]; exact h.mem k hk'
  · rw [getD_set, if_pos rfl, if_pos (by omega)]; exact hr.keep hkb (fun _ _ x => x)
  · rw [getD_set, if_neg (by decide)]; exact h.output
  · exact own_keep h.outputo fun g hg => hk g (fun e => own_ne h.outputo h.blk (by decide) (by rw [hg, e]))
  · rw [getD_set, if_neg (by decide)]; exact h.stop
end
end Go.Proofs.YtpooedfchjpndaaDoor
