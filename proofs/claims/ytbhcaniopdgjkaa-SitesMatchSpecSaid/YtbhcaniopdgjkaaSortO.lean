import Derived.Test.YtbhcaniopdgjkaaLeftL
namespace Go.Proofs.Ytbhcaniopdgjkaa
open Go Go.Proofs Go.RowKit Go.Sort
set_option maxHeartbeats 1600000
set_option maxRecDepth 100000
theorem compact_inv (d : Array Int) (hs : ∀ i j, i < j → j < d.size → d[i]! ≤ d[j]!) : ∀ m, m ≤ d.size → (Lib.compactUpTo d m).Pairwise (· < ·) ∧ ∀ z, z ∈ Lib.compactUpTo d m ↔ ∃ j, j < m ∧ d[j]! = z
  | 0, _ => by simp [Lib.compactUpTo]
  | m + 1, hm => by
    obtain ⟨h1, h2⟩ := compact_inv d hs m (by omega)
    rw [Lib.compactUpTo_succ]
    by_cases hk : Lib.keeps d m = true
    · rw [if_pos hk]
      refine ⟨?_, ?_⟩
      · rw [List.pairwise_append]
        refine ⟨h1, by simp, ?_⟩
        intro a ha b hb
        rw [List.mem_singleton] at hb
        subst hb
        obtain ⟨j, hj, rfl⟩ := (h2 a).1 ha
        have hk' : m = 0 ∨ d[m]! ≠ d[m - 1]! := by simpa [Lib.keeps] using hk
        rcases hk' with h | h
        · omega
        · have e1 := hs (m - 1) m (by omega) (by omega)
          have e2 : d[j]! ≤ d[m - 1]! := by
            rcases Nat.lt_or_ge j (m - 1) with h5 | h5
            · exact hs _ _ h5 (by omega)
            · rw [show j = m - 1 by omega]; exact Int.le_refl _
          omega
      · intro z
        rw [List.mem_append, h2, List.mem_singleton]
        constructor
        · rintro (⟨j, hj, h⟩ | rfl)
          · exact ⟨j, by omega, h⟩
          · exact ⟨m, by omega, rfl⟩
        · rintro ⟨j, hj, h⟩
          rcases Nat.lt_or_ge j m with h5 | h5
          · exact .inl ⟨j, h5, h⟩
          · rw [show j = m by omega] at h; exact .inr h.symm
    · rw [if_neg hk, List.append_nil]
      refine ⟨h1, fun z => ?_⟩
      rw [h2]
      have hk' : m ≠ 0 ∧ d[m]! = d[m - 1]! := by simpa [Lib.keeps] using hk
      constructor
      · rintro ⟨j, hj, h⟩; exact ⟨j, by omega, h⟩
      · rintro ⟨j, hj, h⟩
        rcases Nat.lt_or_ge j m with h5 | h5
        · exact ⟨j, h5, h⟩
        · rw [show j = m by omega, hk'.2] at h; exact ⟨m - 1, by omega, h⟩
theorem compact_law (zs : List Int) (hs : zs.Pairwise (· ≤ ·)) : (Lib.compact zs).Pairwise (· < ·) ∧ ∀ z, z ∈ Lib.compact zs ↔ z ∈ zs := by
  have hd : ∀ i j, i < j → j < zs.toArray.size → zs.toArray[i]! ≤ zs.toArray[j]! := by
    intro i j hij hj
    have hj' : j < zs.length := by simpa using hj
    rw [getElem!_pos zs.toArray i (by simp; omega), getElem!_pos zs.toArray j hj]
    simp only [List.getElem_toArray]
    exact List.pairwise_iff_getElem.1 hs i j (by omega) hj' hij
  obtain ⟨h1, h2⟩ := compact_inv zs.toArray hd zs.length (by simp)
  refine ⟨h1, fun z => ?_⟩
  unfold Lib.compact
  rw [h2, List.mem_iff_getElem]
  constructor
  · rintro ⟨j, hj, h⟩
    rw [getElem!_pos _ _ (by simpa using hj)] at h
    exact ⟨j, hj, by simpa using h⟩
  · rintro ⟨j, hj, h⟩
    exact ⟨j, hj, by rw [getElem!_pos _ _ (by simpa using hj)]; simpa using h⟩
theorem compact_len (zs : List Int) : (Lib.compact zs).length ≤ zs.length := by
  unfold Lib.compact Lib.compactUpTo
  rw [List.length_map]
  exact Nat.le_trans (List.length_filter_le _ _) (by simp)
/-- A row of the call's own under a store of another row. -/
theorem put_blk {w : World} {g : Nat} {cur : Array Value} {e : TypeId} (h : w.heap[g]? = some (.cells cur e (0, 0))) (n : Nat) (d : Array Int) : (putRow (Value.int .i64) (Sort.ahead w n) g 0 d).heap[g]? = some (.cells (putCells (Value.int .i64) 0 d cur) e (0, 0)) := by
  have h' : (Sort.ahead w n).heap[g]? = some (.cells cur e (0, 0)) := h
  unfold putRow mapBlock
  simp only [Array.getElem?_modify, h', if_true, onCells, Option.map_some]
theorem put_below {w : World} {g base : Nat} (n : Nat) (d : Array Int) (hb : base ≤ g) : Below base w (putRow (Value.int .i64) (Sort.ahead w n) g 0 d) := by
  refine ⟨rfl, rfl, rfl, by simp [putRow, mapBlock, Sort.ahead], fun k hk => ?_⟩
  show ((Sort.ahead w n).heap.modify g _)[k]? = _
  rw [Array.getElem?_modify, if_neg (by omega)]
  rfl
theorem grow_below {base : Nat} {w w1 : World} (h : Below base w w1) (hb : base ≤ w.heap.size) (os : Array Obj) : Below base w (grow w1 os) := by
  refine ⟨h.os, h.tape, h.output, by have := h.size; simp; omega, fun k hk => ?_⟩
  rw [heap_grow_old w1 os (by have := h.size; omega)]
  exact h.block k hk
theorem put_cells_take (d : List Int) (cur : Array Value) (h : d.length ≤ cur.size) : (putCells (Value.int .i64) 0 d.toArray cur).toList.take d.length = d.map (Value.int .i64) := by
  apply List.ext_getElem?
  intro i
  rw [List.getElem?_take, List.getElem?_map]
  by_cases hi : i < d.length
  · rw [if_pos hi, List.getElem?_eq_getElem hi]
    simp only [putCells, Array.toList_mapIdx, List.getElem?_mapIdx]
    have hc : i < cur.toList.length := by simp; omega
    rw [List.getElem?_eq_getElem hc]
    simp only [Option.map_some]
    rw [if_pos ⟨by omega, by simpa using hi⟩, getElem!_pos _ _ (by simpa using hi)]
    simp
  · rw [if_neg hi, List.getElem?_eq_none (by omega)]
    rfl
theorem own_holds {w : World} {g : Nat} {cur : Array Value} {zs : List Int} (h : w.heap[g]? = some (.cells cur 3 (0, 0))) (ht : cur.toList.take zs.length = zs.map (Value.int .i64)) : Holds (Value.int .i64) w g 0 zs.toArray := by
  intro j hj
  have hj' : j < zs.length := by simpa using hj
  refine ⟨?_, blk_frozen h _⟩
  rw [Nat.zero_add, blk_cell h, getElem!_pos zs.toArray j hj]
  have : (cur.toList.take zs.length)[j]? = (zs.map (Value.int .i64))[j]? := by rw [ht]
  rw [List.getElem?_take, if_pos hj', List.getElem?_map, List.getElem?_eq_getElem hj'] at this
  simpa using this
def sortI (zs : List Int) : List Int := zs.mergeSort fun x y => decide (x ≤ y)
theorem sortI_len (zs : List Int) : (sortI zs).length = zs.length := List.length_mergeSort _
theorem sortI_mem (zs : List Int) (z : Int) : z ∈ sortI zs ↔ z ∈ zs := List.mem_mergeSort
theorem sortI_sorted (zs : List Int) : (sortI zs).Pairwise (· ≤ ·) := by
  have := List.pairwise_mergeSort (le := fun x y : Int => decide (x ≤ y)) (by intro a b c; simp; omega) (by intro a b; simp; omega) zs
  exact this.imp (by simp)
/-- slices.Sort of a row of one's own. -/
theorem sort_own (w : World) (base : Nat) (v : Value) (zs : List Int) (ho : w.ownsRow base 3 1 v zs.length (zs.map (Value.int .i64))) (hl : zs.length ≤ 1000000) (hbs : base ≤ w.heap.size) :
    Calls Try.prog 52 #[v] w fun e w' => e = .returned (.tuple #[]) ∧ w'.ownsRow base 3 1 v zs.length ((sortI zs).map (Value.int .i64)) ∧ Below base w w' := by
  rcases ho.2 with ⟨rfl, h0⟩ | ⟨g, cap, cur, rfl, hb, hg, hn, hm, hsz, ht⟩
  · refine (Try.slices_Sort_int_none none 0 w).mono ?_
    rintro e w' ⟨rfl, rfl⟩
    have hz : zs = [] := List.eq_nil_of_length_eq_zero h0
    subst hz
    exact ⟨rfl, by simpa [sortI] using ho, Below.refl _ _⟩
  · rw [Nat.mul_one] at ht hsz
    have hlt : g < w.heap.size := (Array.getElem?_eq_some_iff.1 hg).1
    refine (Try.slices_Sort_int g 0 cap zs w (own_holds hg ht) hlt (by omega)).mono ?_
    rintro e w' ⟨rfl, n, os, rfl⟩
    refine ⟨rfl, ⟨by simp [sortI_len], .inr ⟨g, cap, putCells (Value.int .i64) 0 (sortI zs).toArray cur, rfl, hb, ?_, hn, hm, ?_, ?_⟩⟩, grow_below (put_below _ _ hb) hbs os⟩
    · rw [heap_grow_old _ _ (by simp [Sort.ahead]; exact hlt)]
      exact put_blk hg n _
    · simp [putCells, hsz]
    · rw [Nat.mul_one]
      have := put_cells_take (sortI zs) cur (by rw [sortI_len]; omega)
      rw [sortI_len] at this
      exact this
/-- slices.Compact of a row of one's own. -/
theorem compact_own (w : World) (base : Nat) (v : Value) (zs : List Int) (ho : w.ownsRow base 3 1 v zs.length (zs.map (Value.int .i64))) (hl : zs.length ≤ 1000000) :
    Calls Try.prog 82 #[v] w fun e w' => ∃ v', e = .returned v' ∧ w'.ownsRow base 3 1 v' (Lib.compact zs).length ((Lib.compact zs).map (Value.int .i64)) ∧ Below base w w' := by
  rcases ho.2 with ⟨rfl, h0⟩ | ⟨g, cap, cur, rfl, hb, hg, hn, hm, hsz, ht⟩
  · refine (Try.slices_Compact_int_empty none 0 w).mono ?_
    rintro e w' ⟨rfl, rfl⟩
    have hz : zs = [] := List.eq_nil_of_length_eq_zero h0
    subst hz
    exact ⟨_, rfl, by simpa [Lib.compact, Lib.compactUpTo] using ho, Below.refl _ _⟩
  · rw [Nat.mul_one] at ht hsz
    refine (Try.slices_Compact_int g 0 cap zs w (own_holds hg ht) (by omega) hn).mono ?_
    rintro e w' ⟨rfl, q, rfl⟩
    have hcl := compact_len zs
    refine ⟨_, rfl, ⟨by simp, .inr ⟨g, cap, _, rfl, hb, put_blk hg q _, by omega, hm, by simp [putCells, hsz], ?_⟩⟩, put_below _ _ hb⟩
    rw [Nat.mul_one]
    have := put_cells_take (Lib.compact zs ++ List.replicate (zs.length - (Lib.compact zs).length) 0) cur (by simp; omega)
    have h2 : ((putCells (Value.int .i64) 0 (Lib.compact zs ++ List.replicate (zs.length - (Lib.compact zs).length) 0).toArray cur).toList.take (Lib.compact zs ++ List.replicate (zs.length - (Lib.compact zs).length) 0).length).take (Lib.compact zs).length = (Lib.compact zs).map (Value.int .i64) := by
      rw [this, List.map_append, List.take_left' (by simp)]
    rw [List.take_take, Nat.min_eq_left (by simp)] at h2
    exact h2
end Go.Proofs.Ytbhcaniopdgjkaa
