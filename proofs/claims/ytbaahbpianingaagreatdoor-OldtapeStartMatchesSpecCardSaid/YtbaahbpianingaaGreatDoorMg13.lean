import Derived.Test.YtbaahbpianingaaGreatDoorMg12
namespace Go.Proofs.YtbaahbpianingaaGreatDoor
open Go Go.Proofs Go.RowKit
open Tape (Rule Ts)
set_option maxHeartbeats 6400000
set_option maxRecDepth 100000
/-- A state whose rows are both its own. -/
structure MrIs (w : World) (B bm : Nat) (s : Ts) (cs : Array Value) (v0 v1 : Value) : Prop where
  blk : w.heap[bm]? = some (.cells cs 25 (0, 0))
  le : B ≤ bm
  size : cs.size = 5
  c0 : cs[0]? = some v0
  own0 : w.ownsRow B 54 5 v0 s.rules.length (rulesV s.rules)
  c1 : cs[1]? = some v1
  own1 : w.ownsRow B 3 1 v1 s.cells.length (s.cells.map (Value.int .i64))
  at_ : cs[2]? = some (.int .i64 s.at_)
  state : cs[3]? = some (.int .i64 s.state)
  stop : cs[4]? = some (.int .i64 s.stop)
section
variable {w w1 w' : World} {B bm : Nat} {s : Ts} {cs : Array Value} {v0 v1 : Value}
theorem MrIs.lt (h : MrIs w B bm s cs v0 v1) : bm < w.heap.size := (Array.getElem?_eq_some_iff.1 h.blk).1
theorem MrIs.cell (h : MrIs w B bm s cs v0 v1) (i : Nat) : w.cell? ⟨bm, i, none⟩ = cs[i]? := cell_of_row w bm i cs 25 (0, 0) h.blk
theorem MrIs.frozen (h : MrIs w B bm s cs v0 v1) (i : Nat) : w.frozen? ⟨bm, i, none⟩ = false := by simp [World.frozen?, h.blk]
theorem MrIs.keep (h : MrIs w B bm s cs v0 v1) (hk : ∀ g, B ≤ g → g < w.heap.size → w'.heap[g]? = w.heap[g]?) : MrIs w' B bm s cs v0 v1 :=
  ⟨by rw [hk _ h.le h.lt]; exact h.blk, h.le, h.size, h.c0, own_keep h.own0 (fun g hg => hk g (own_lt h.own0 hg).1 (own_lt h.own0 hg).2), h.c1, own_keep h.own1 (fun g hg => hk g (own_lt h.own1 hg).1 (own_lt h.own1 hg).2), h.at_, h.state, h.stop⟩
theorem MrIs.ext (h : MrIs w B bm s cs v0 v1) (e : Ext w w') : MrIs w' B bm s cs v0 v1 := h.keep fun g _ hg => e.block g hg
theorem MrIs.is (h : MrIs w B bm s cs v0 v1) (hw : TsWf s) (hk : ∀ g, B ≤ g → g < w.heap.size → w'.heap[g]? = w.heap[g]?) : TsIs w' cs s := by
  have k := h.keep hk
  obtain ⟨A, c, e0, g2, g3, g4, g5⟩ := own_sl5 k.own0
  obtain ⟨A', c', e1, k2, k3, k4, k5⟩ := own_sl5 k.own1
  exact ⟨h.size, ⟨A, c, by rw [h.c0, e0], g2, g3, g4, g5⟩, ⟨A', c', by rw [h.c1, e1], k2, k3, k4, k5⟩, h.at_, h.state, h.stop, hw⟩
theorem MrIs.one (h : MrIs w B bm s cs v0 v1) : cs.all (·.oneCell') = true := by
  obtain ⟨A, c, e0, _⟩ := own_sl5 h.own0
  obtain ⟨A', c', e1, _⟩ := own_sl5 h.own1
  exact cells5_one h.size (by rw [h.c0, e0]) (by rw [h.c1, e1]) h.at_ h.state h.stop
theorem MrIs.ne0 (h : MrIs w B bm s cs v0 v1) : v0.ownBlock ≠ some bm := own_ne h.own0 h.blk (by decide)
theorem MrIs.ne1 (h : MrIs w B bm s cs v0 v1) : v1.ownBlock ≠ some bm := own_ne h.own1 h.blk (by decide)
theorem MrIs.setAt (h : MrIs w B bm s cs v0 v1) (n : Int) : MrIs (w.setCell ⟨bm, 2, none⟩ (.int .i64 n)) B bm { s with at_ := n } (cs.setIfInBounds 2 (.int .i64 n)) v0 v1 := by
  have hsz := h.size
  have hk : ∀ g, g ≠ bm → (w.setCell ⟨bm, 2, none⟩ (.int .i64 n)).heap[g]? = w.heap[g]? := fun g hg => Below.heap_setCell w ⟨bm, 2, none⟩ _ g hg
  refine ⟨heap_set_self h.blk 2 _, h.le, by simpa using hsz, ?_, ?_, ?_, ?_, ?_, ?_, ?_⟩
  · rw [getD_set, if_neg (by decide)]; exact h.c0
  · exact own_keep h.own0 fun g hg => hk g (fun e => h.ne0 (by rw [hg, e]))
  · rw [getD_set, if_neg (by decide)]; exact h.c1
  · exact own_keep h.own1 fun g hg => hk g (fun e => h.ne1 (by rw [hg, e]))
  · rw [getD_set, if_pos rfl, if_pos (by omega)]
  · rw [getD_set, if_neg (by decide)]; exact h.state
  · rw [getD_set, if_neg (by decide)]; exact h.stop
theorem MrIs.ne01 (h : MrIs w B bm s cs v0 v1) {g : Nat} (hg : v0.ownBlock = some g) : v1.ownBlock ≠ some g := own_two h.own0 h.own1 (by decide) g hg
/-- The cells have been written anew, in their place. -/
theorem MrIs.putCells {g c : Nat} {l : List Int} (h : MrIs w B bm s cs v0 (.slice (some ⟨g, 0, none⟩) s.cells.length c)) (hl : l.length = s.cells.length) :
    MrIs (w.setCells g 0 (l.map (Value.int .i64))) B bm { s with cells := l } cs v0 (.slice (some ⟨g, 0, none⟩) s.cells.length c) := by
  have hgr := grown_setCells (g := g) (l.map (Value.int .i64)) 0 w
  have hne : bm ≠ g := fun e => h.ne1 (by rw [e]; rfl)
  have hk : ∀ k, k < w.heap.size → k ≠ g → (w.setCells g 0 (l.map (Value.int .i64))).heap[k]? = w.heap[k]? := fun k hk hn => hgr.block k hk (fun e => hn (by injection e))
  refine ⟨(hk bm h.lt hne).trans h.blk, h.le, h.size, h.c0, ?_, h.c1, ?_, h.at_, h.state, h.stop⟩
  · exact own_keep h.own0 fun k hkk => hk k (own_lt h.own0 hkk).2 (fun e => h.ne01 hkk (by rw [e]; rfl))
  · show (w.setCells g 0 (l.map (Value.int .i64))).ownsRow B 3 1 _ l.length (l.map (Value.int .i64))
    rcases h.own1.2 with ⟨hv, _⟩ | ⟨g', cap, cur, hv, hb, hg, hn, hm, hc, ht⟩
    · cases hv
    · cases hv
      obtain ⟨c2, k1, k2, k3⟩ := heap_setCells (l.map (Value.int .i64)) 0 w cur hg
      rw [hl]
      refine ⟨by simp [hl], .inr ⟨g, c, c2, rfl, hb, k1, hn, hm, by rw [k2]; exact hc, ?_⟩⟩
      apply List.ext_getElem?
      intro k
      rw [List.getElem?_take, Nat.mul_one]
      by_cases hkl : k < s.cells.length
      · rw [if_pos hkl, Array.getElem?_toList, k3 k (by omega), if_pos ⟨by omega, by simp; omega⟩]
        rfl
      · rw [if_neg hkl, List.getElem?_eq_none (by simp; omega)]
theorem rulesV_set : ∀ (L : List Rule) (i : Nat) (r : Rule) (m : Int), L[i]? = some r → (rulesV L).set (i * 5 + 3) (.int .i64 m) = rulesV (L.set i { r with mv := m })
  | [], i, r, m, h => by simp at h
  | q :: L, 0, r, m, h => by
    have e : q = r := by simpa using h
    subst e
    rfl
  | q :: L, i + 1, r, m, h => by
    have ih := rulesV_set L i r m (by simpa using h)
    show (ruleV q ++ rulesV L).set ((i + 1) * 5 + 3) _ = ruleV q ++ rulesV (L.set i { r with mv := m })
    rw [← ih, List.set_append_right _ _ (by rw [ruleV_len]; omega), ruleV_len, show (i + 1) * 5 + 3 - 5 = i * 5 + 3 by omega]
/-- The move of a rule is written. -/
theorem MrIs.putRule {g c i : Nat} {r : Rule} (h : MrIs w B bm s cs (.slice (some ⟨g, 0, none⟩) s.rules.length c) v1) (hr : s.rules[i]? = some r) (m : Int) :
    MrIs (w.setCell ⟨g, i * 5 + 3, none⟩ (.int .i64 m)) B bm { s with rules := s.rules.set i { r with mv := m } } cs (.slice (some ⟨g, 0, none⟩) s.rules.length c) v1 := by
  obtain ⟨h1, h2⟩ := h.own0.stored (i * 5 + 3) (.int .i64 m)
  have hne : ∀ k, k ≠ g → (w.setCell ⟨g, i * 5 + 3, none⟩ (.int .i64 m)).heap[k]? = w.heap[k]? := fun k hk => Below.heap_setCell w ⟨g, i * 5 + 3, none⟩ _ k hk
  have hgb : bm ≠ g := fun e => h.ne0 (by rw [e]; rfl)
  refine ⟨by rw [hne bm hgb]; exact h.blk, h.le, h.size, h.c0, ?_, h.c1, ?_, h.at_, h.state, h.stop⟩
  · show (w.setCell ⟨g, i * 5 + 3, none⟩ (.int .i64 m)).ownsRow B 54 5 _ (s.rules.set i { r with mv := m }).length (rulesV (s.rules.set i { r with mv := m }))
    rw [List.length_set, ← rulesV_set s.rules i r m hr]
    exact h1
  · exact own_keep h.own1 fun k hk => hne k (fun e => h.ne01 (g := g) rfl (by rw [hk, e]))
end
/-- The copy of a state in a block. -/
theorem mrIs_mk {w w2 : World} {cs : Array Value} {s : Ts} {v0 v1 : Value} {B : Nat} (h : TsIs w cs s) (h0 : w2.ownsRow B 54 5 v0 s.rules.length (rulesV s.rules)) (h1 : w2.ownsRow B 3 1 v1 s.cells.length (s.cells.map (Value.int .i64))) (hB : B ≤ w2.heap.size) :
    MrIs ((w2.alloc (.cells zeroTs 25)).setRow w2.heap.size ((cs.setIfInBounds 0 v0).setIfInBounds 1 v1)) B w2.heap.size s ((cs.setIfInBounds 0 v0).setIfInBounds 1 v1) v0 v1 := by
  have hx : Ext w2 ((w2.alloc (.cells zeroTs 25)).setRow w2.heap.size ((cs.setIfInBounds 0 v0).setIfInBounds 1 v1)) := ((Ext.refl w2).alloc _).setRow (Nat.le_refl _) _
  have hsz := h.size
  refine ⟨setRow_heap _ _ _ _ _ _ (heap_alloc_new w2 _), hB, by simpa using hsz, ?_, town_ext h0 hx, ?_, town_ext h1 hx, ?_, ?_, ?_⟩
  · rw [getD_set, if_neg (by decide), getD_set, if_pos rfl, if_pos (by omega)]
  · rw [getD_set, if_pos rfl, if_pos (by simp; omega)]
  · rw [getD_set, if_neg (by decide), getD_set, if_neg (by decide)]; exact h.at_
  · rw [getD_set, if_neg (by decide), getD_set, if_neg (by decide)]; exact h.state
  · rw [getD_set, if_neg (by decide), getD_set, if_neg (by decide)]; exact h.stop
end Go.Proofs.YtbaahbpianingaaGreatDoor
