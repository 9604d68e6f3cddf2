import Derived.Test.YtbhcaniopdgjkaaPof2
namespace Go.Proofs.Ytbhcaniopdgjkaa
open Go Go.Proofs Go.RowKit
open Plain (SiteD)
set_option maxHeartbeats 1000000
set_option maxRecDepth 100000
theorem mkRow_lab (n : Nat) : mkRow n = labRow n (fun _ => 0) := by
  unfold mkRow labRow
  simp [List.map_const']
theorem labRow_congr {n : Nat} {f g : Nat → Nat} (h : ∀ k, k < n → f k = g k) : labRow n f = labRow n g := by
  unfold labRow
  congr 1
  apply List.map_congr_left
  intro k hk
  rw [h k (List.mem_range.1 hk)]
def fillTo (i : Nat) : Nat → Nat := fun k => if k < i then k else 0
theorem fillTo_succ (i : Nat) : Plain.upd (fillTo i) i i = fillTo (i + 1) := by
  funext k
  unfold Plain.upd fillTo
  by_cases h : k = i
  · subst h; simp
  · simp only [h, if_false]
    by_cases h2 : k < i
    · rw [if_pos h2, if_pos (by omega)]
    · rw [if_neg h2, if_neg (by omega)]
theorem Labs.first {w wr : World} {gf n : Nat} (h : Labs w wr gf n (fillTo n)) (L : List SiteD) (r : Nat) (hr : r = 0) : Labs w wr gf n (Plain.rounds (adjF L) n r) := by
  subst hr
  refine ⟨h.x, h.base, ?_⟩
  rw [h.row, labRow_congr (f := fillTo n) (g := Plain.rounds (adjF L) n 0)]
  intro k hk
  simp [fillTo, hk, Plain.rounds]
def partL (f : Nat → Nat) (i k : Nat) : List Int := ((List.range k).filter fun j => f j == i).map Int.ofNat
theorem partL_succ (f : Nat → Nat) (i k : Nat) : partL f i (k + 1) = partL f i k ++ (if f k == i then [(k : Int)] else []) := by
  unfold partL
  rw [List.range_succ, List.filter_append, List.map_append]
  congr 1
  cases h : f k == i <;> simp [h]
theorem partL_len (f : Nat → Nat) (i k : Nat) : (partL f i k).length ≤ k := by
  unfold partL
  rw [List.length_map]
  exact Nat.le_trans (List.length_filter_le _ _) (by simp)
def outL (f : Nat → Nat) (n i : Nat) : List (List Int) := intsL ((List.range i).filterMap fun i => if ((List.range n).filter fun k => f k == i) = [] then none else some ((List.range n).filter fun k => f k == i))
theorem outL_all (f : Nat → Nat) (n : Nat) : outL f n n = intsL (Plain.partsS n f) := rfl
theorem outL_succ (f : Nat → Nat) (n i : Nat) : outL f n (i + 1) = outL f n i ++ (if (partL f i n).length = 0 then [] else [partL f i n]) := by
  unfold outL intsL partL
  rw [List.range_succ, List.filterMap_append, List.map_append]
  congr 1
  by_cases h : ((List.range n).filter fun k => f k == i) = []
  · rw [h]; simp only [List.filterMap_cons, List.filterMap_nil, if_pos h, List.map_nil, List.length_nil, if_true]
  · have : ((List.range n).filter fun k => f k == i).length ≠ 0 := by simpa using h
    simp only [List.filterMap_cons, List.filterMap_nil, if_neg h, List.length_map, if_neg this, List.map_cons, List.map_nil]
theorem outL_len (f : Nat → Nat) (n i : Nat) : (outL f n i).length ≤ i := by
  induction i with
  | zero => simp [outL, intsL]
  | succ i ih =>
    rw [outL_succ, List.length_append]
    split <;> simp <;> omega
/-- The parts that have been put out. -/
structure OutQ (Wb wr : World) (P : List (List Int)) (v : Value) (vs : List Value) : Prop where
  x : Ext Wb wr
  own : wr.ownsRow Wb.heap.size 23 1 v P.length vs
  rows : RowsOk Wb wr v vs P
theorem OutQ.start (Wb : World) : OutQ Wb Wb [] (.slice none 0 0) [] := ⟨Ext.refl _, World.ownsRow_nil _ _ _ _, fun j g hg => by simp at hg⟩
section
variable {Wb wr : World} {P : List (List Int)} {v : Value} {vs : List Value}
theorem OutQ.ext (h : OutQ Wb wr P v vs) {w1 : World} (e : Ext wr w1) : OutQ Wb w1 P v vs := by
  refine ⟨h.x.trans e, own_ext h.own e, fun j g hg => ?_⟩
  obtain ⟨blk, c, cur, r1, r2, r3, r4⟩ := h.rows j g hg
  exact ⟨blk, c, cur, r1, r2, ext_blk e r3, r4⟩
theorem OutQ.add (h : OutQ Wb wr P v vs) {w3 : World} {v3 : Value} {blk c : Nat} {cur : Array Value} {g : List Int} {o : Obj}
    (hg1 : wr.heap[blk]? = some (.cells cur 3 (0, 0))) (hg2 : Wb.heap.size ≤ blk) (hg3 : g.length ≤ c) (hg4 : c ≤ maxLen) (hg5 : cur.size = c) (hg6 : cur.toList.take g.length = g.map (Value.int .i64)) (hg7 : v.ownBlock ≠ some blk)
    (ho : w3.ownsRow Wb.heap.size 23 1 v3 (P.length + 1) (vs ++ [.slice (some ⟨blk, 0, none⟩) g.length c])) (hgr : (wr.alloc o).grownBy w3 v.ownBlock) (hat : v3.ownBlock = v.ownBlock ∨ v3.ownBlock = some (wr.alloc o).heap.size) : OutQ Wb w3 (P ++ [g]) v3 (vs ++ [.slice (some ⟨blk, 0, none⟩) g.length c]) := by
  have hsz : (wr.alloc o).heap.size = wr.heap.size + 1 := alloc_size wr o
  have hx1 : Ext wr (wr.alloc o) := (Ext.refl wr).alloc o
  have hk : ∀ b, b < wr.heap.size → some b ≠ v.ownBlock → w3.heap[b]? = wr.heap[b]? := fun b hb hn => by
    rw [hgr.block b (by omega) hn, alloc_heap, if_neg (by omega)]
  have hv3 : ∀ b, b < wr.heap.size → v.ownBlock ≠ some b → v3.ownBlock ≠ some b := fun b hb hn he => by
    rcases hat with h1 | h1
    · exact hn (h1 ▸ he)
    · rw [h1] at he; injection he with he; omega
  have hvl : vs.length = P.length := by have := h.own.1; omega
  refine ⟨grow_ext (h.x.trans hx1) (own_ext h.own hx1) hgr, by rw [List.length_append]; exact ho, fun j g' hg => ?_⟩
  by_cases hj : j < P.length
  · rw [List.getElem?_append_left hj] at hg
    obtain ⟨blk', c', cur', r1, r2, r3, r4, r5, r6, r7, r8⟩ := h.rows j g' hg
    exact ⟨blk', c', cur', by rw [List.getElem?_append_left (by omega)]; exact r1, r2, by rw [hk blk' (blk_lt r3) (Ne.symm r8)]; exact r3, r4, r5, r6, r7, hv3 _ (blk_lt r3) r8⟩
  · have hj2 : j = P.length := by
      have := (List.getElem?_eq_some_iff.1 hg).1
      simp at this
      omega
    subst hj2
    rw [List.getElem?_append_right (Nat.le_refl _), Nat.sub_self] at hg
    simp only [List.getElem?_cons_zero, Option.some.injEq] at hg
    subst hg
    exact ⟨blk, c, cur, by rw [List.getElem?_append_right (by omega)]; simp [hvl], hg2, by rw [hk blk (blk_lt hg1) (Ne.symm hg7)]; exact hg1, hg3, hg4, hg5, hg6, hv3 _ (blk_lt hg1) hg7⟩
theorem OutQ.pv (h : OutQ Wb wr P v vs) : PV wr v P := by
  refine own_pv h.own fun j r hr => ?_
  obtain ⟨blk, c, cur, r1, r2, r3, r4, r5, r6, r7, r8⟩ := h.rows j r hr
  refine ⟨blk, c, r1, r4, r5, Sl.mk fun i x hx => ⟨_, rfl, ?_⟩⟩
  have hadd : (⟨blk, 0, none⟩ : Addr).add i = ⟨blk, i, none⟩ := by unfold Addr.add; split <;> simp_all
  rw [hadd, blk_cell r3]
  have hi : i < r.length := (List.getElem?_eq_some_iff.1 hx).1
  have : (cur.toList.take r.length)[i]? = (r.map (Value.int .i64))[i]? := by rw [r7]
  rw [List.getElem?_take, if_pos hi, List.getElem?_map, hx] at this
  simpa using this
end
theorem relax_yes {L : List SiteD} {i k : Nat} {g : Nat → Nat} (h1 : adjF L i k = true) (h2 : g k < g i) : Plain.relax (adjF L) i g k = Plain.upd g i (g k) := by simp [Plain.relax, h1, h2]
theorem relax_no {L : List SiteD} {i k : Nat} {g : Nat → Nat} (h : adjF L i k = false ∨ ¬ g k < g i) : Plain.relax (adjF L) i g k = g := by
  unfold Plain.relax
  rw [if_neg]
  rcases h with h | h <;> simp [h]
end Go.Proofs.Ytbhcaniopdgjkaa
