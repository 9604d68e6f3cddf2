import Derived.Test.YtbhcaniopdgjkaaMg14
namespace Go.Proofs.Ytbhcaniopdgjkaa
open Go Go.Proofs Go.RowKit Go.Sort
set_option maxHeartbeats 1600000
set_option maxRecDepth 100000
theorem compact_inv (d : Array Int) (hs : ∀ i j, i < j → j < d.size → d[i]! ≤ d[j]!) : ∀ m, m ≤ d.size → (Lib.compactUpTo d m).Pairwise (· < ·) ∧ ∀ z, z ∈ Lib.compactUpTo d m ↔ ∃ j, j < m ∧ d[j]! = z
  | 0, _ => by simp [Lib.compactUpTo]
  | m + 1, hm => by
    obtain ⟨h1, h2⟩ := compact_inv d hs m (by omega)
    rw [Lib.compactUpTo_succ]
    by_cases hk : Lib.keeps d m = true
    · rw [if_pos hk]
      refine ⟨?_, ?_⟩
      · rw [List.pairwise_append]
        refine ⟨h1, by simp, ?_⟩
        intro a ha b hb
        rw [List.mem_singleton] at hb
        subst hb
        obtain ⟨j, hj, rfl⟩ := (h2 a).1 ha
        have hk' : m = 0 ∨ d[m]! ≠ d[m - 1]! := by simpa [Lib.keeps] using hk
        rcases hk' with h | h
        · omega
        · have e1 := hs (m - 1) m (by omega) (by omega)
          have e2 : d[j]! ≤ d[m - 1]! := by
            rcases Nat.lt_or_ge j (m - 1) with h5 | h5
            · exact hs _ _ h5 (by omega)
            · rw [show j = m - 1 by omega]; exact Int.le_refl _
          omega
      · intro z
        rw [List.mem_append, h2, List.mem_singleton]
        constructor
        · rintro (⟨j, hj, h⟩ | rfl)
          · exact ⟨j, by omega, h⟩
          · exact ⟨m, by omega, rfl⟩
        · rintro ⟨j, hj, h⟩
          rcases Nat.lt_or_ge j m with h5 | h5
          · exact .inl ⟨j, h5, h⟩
          · rw [show j = m by omega] at h; exact .inr h.symm
    · rw [if_neg hk, List.append_nil]
      refine ⟨h1, fun z => ?_⟩
      rw [h2]
      have hk' : m ≠ 0 ∧ d[m]! = d[m - 1]! := by simpa [Lib.keeps] using hk
      constructor
      · rintro ⟨j, hj, h⟩; exact ⟨j, by omega, h⟩
      · rintro ⟨j, hj, h⟩
        rcases Nat.lt_or_ge j m with h5 | h5
        · exact ⟨j, h5, h⟩
        · rw [show j = m by omega, hk'.2] at h; exact ⟨m - 1, by omega, h⟩
theorem compact_law (zs : List Int) (hs : zs.Pairwise (· ≤ ·)) : (Lib.compact zs).Pairwise (· < ·) ∧ ∀ z, z ∈ Lib.compact zs ↔ z ∈ zs := by
  have hd : ∀ i j, i < j → j < zs.toArray.size → zs.toArray[i]! ≤ zs.toArray[j]! := by
    intro i j hij hj
    have hj' : j < zs.length := by simpa using hj
    rw [getElem!_pos zs.toArray i (by simp; omega), getElem!_pos zs.toArray j hj]
    simp only [List.getElem_toArray]
    exact List.pairwise_iff_getElem.1 hs i j (by omega) hj' hij
  obtain ⟨h1, h2⟩ := compact_inv zs.toArray hd zs.length (by simp)
  refine ⟨h1, fun z => ?_⟩
  unfold Lib.compact
  rw [h2, List.mem_iff_getElem]
  constructor
  · rintro ⟨j, hj, h⟩
    rw [getElem!_pos _ _ (by simpa using hj)] at h
    exact ⟨j, hj, by simpa using h⟩
  · rintro ⟨j, hj, h⟩
    exact ⟨j, hj, by rw [getElem!_pos _ _ (by simpa using hj)]; simpa using h⟩
theorem compact_len (zs : List Int) : (Lib.compact zs).length ≤ zs.length := by
  unfold Lib.compact Lib.compactUpTo
  rw [List.length_map]
  exact Nat.le_trans (List.length_filter_le _ _) (by simp)
/-- A row of the call's own under a store of another row. -/
theorem put_blk {w : World} {g : Nat} {cur : Array Value} {e : TypeId} (h : w.heap[g]? = some (.cells cur e (0, 0))) (n : Nat) (d : Array Int) : (putRow (Value.int .i64) (Sort.ahead w n) g 0 d).heap[g]? = some (.cells (putCells (Value.int .i64) 0 d cur) e (0, 0)) := by
  have h' : (Sort.ahead w n).heap[g]? = some (.cells cur e (0, 0)) := h
  unfold putRow mapBlock
  simp only [Array.getElem?_modify, h', if_true, onCells, Option.map_some]
theorem put_below {w : World} {g base : Nat} (n : Nat) (d : Array Int) (hb : base ≤ g) : Below base w (putRow (Value.int .i64) (Sort.ahead w n) g 0 d) := by
  refine ⟨rfl, rfl, rfl, by simp [putRow, mapBlock, Sort.ahead], fun k hk => ?_⟩
  show ((Sort.ahead w n).heap.modify g _)[k]? = _
  rw [Array.getElem?_modify, if_neg (by omega)]
  rfl
theorem grow_below {base : Nat} {w w1 : World} (h : Below base w w1) (hb : base ≤ w.heap.size) (os : Array Obj) : Below base w (grow w1 os) := by
  refine ⟨h.os, h.tape, h.output, by have := h.size; simp; omega, fun k hk => ?_⟩
  rw [heap_grow_old w1 os (by have := h.size; omega)]
  exact h.block k hk
theorem put_cells_take (d : List Int) (cur : Array Value) (h : d.length ≤ cur.size) : (putCells (Value.int .i64) 0 d.toArray cur).toList.take d.length = d.map (Value.int .i64) := by
  apply List.ext_getElem?
  intro i
  rw [List.getElem?_take, List.getElem?_map]
  by_cases hi : i < d.length
  · rw [if_pos hi, List.getElem?_eq_getElem hi]
    simp only [putCells, Array.toList_mapIdx, List.getElem?_mapIdx]
    have hc : i < cur.toList.length := by simp; omega
    rw [List.getElem?_eq_getElem hc]
    simp only [Option.map_some]
    rw [if_pos ⟨by omega, by simpa using hi⟩, getElem!_pos _ _ (by simpa using hi)]
    simp
  · rw [if_neg hi, List.getElem?_eq_none (by omega)]
    rfl
theorem own_holds {w : World} {g : Nat} {cur : Array Value} {zs : List Int} (h : w.heap[g]? = some (.cells cur 3 (0, 0))) (ht : cur.toList.take zs.length = zs.map (Value.int .i64)) : Holds (Value.int .i64) w g 0 zs.toArray := by
  intro j hj
  have hj' : j < zs.length := by simpa using hj
  refine ⟨?_, blk_frozen h _⟩
  rw [Nat.zero_add, blk_cell h, getElem!_pos zs.toArray j hj]
  have : (cur.toList.take zs.length)[j]? = (zs.map (Value.int .i64))[j]? := by rw [ht]
  rw [List.getElem?_take, if_pos hj', List.getElem?_map, List.getElem?_eq_getElem hj'] at this
  simpa using this
def sortI (zs : List Int) : List Int := zs.mergeSort fun x y => decide (x ≤ y)
theorem sortI_len (zs : List Int) : (sortI zs).length = zs.length := List.length_mergeSort _
theorem sortI_mem (zs : List Int) (z : Int) : z ∈ sortI zs ↔ z ∈ zs := List.mem_mergeSort
theorem sortI_sorted (zs : List Int) : (sortI zs).Pairwise (· ≤ ·) := by
  have := List.pairwise_mergeSort (le := fun x y : Int => decide (x ≤ y)) (by intro a b c; simp; omega) (by intro a b; simp; omega) zs
  exact this.imp (by simp)
/-- slices.Sort of a row of one's own. -/
theorem sort_own (w : World) (base : Nat) (v : Value) (zs : List Int) (ho : w.ownsRow base 3 1 v zs.length (zs.map (Value.int .i64))) (hl : zs.length ≤ 1000000) (hbs : base ≤ w.heap.size) :
    Calls Try.prog 52 #[v] w fun e w' => e = .returned (.tuple #[]) ∧ w'.ownsRow base 3 1 v zs.length ((sortI zs).map (Value.int .i64)) ∧ Below base w w' := by
  rcases ho.2 with ⟨rfl, h0⟩ | ⟨g, cap, cur, rfl, hb, hg, hn, hm, hsz, ht⟩
  · refine (Try.slices_Sort_int_none none 0 w).mono ?_
    rintro e w' ⟨rfl, rfl⟩
    have hz : zs = [] := List.eq_nil_of_length_eq_zero h0
    subst hz
    exact ⟨rfl, by simpa [sortI] using ho, Below.refl _ _⟩
  · rw [Nat.mul_one] at ht hsz
    have hlt : g < w.heap.size := (Array.getElem?_eq_some_iff.1 hg).1
    refine (Try.slices_Sort_int g 0 cap zs w (own_holds hg ht) hlt (by omega)).mono ?_
    rintro e w' ⟨rfl, n, os, rfl⟩
    refine ⟨rfl, ⟨by simp [sortI_len], .inr ⟨g, cap, putCells (Value.int .i64) 0 (sortI zs).toArray cur, rfl, hb, ?_, hn, hm, ?_, ?_⟩⟩, grow_below (put_below _ _ hb) hbs os⟩
    · rw [heap_grow_old _ _ (by simp [Sort.ahead]; exact hlt)]
      exact put_blk hg n _
    · simp [putCells, hsz]
    · rw [Nat.mul_one]
      have := put_cells_take (sortI zs) cur (by rw [sortI_len]; omega)
      rw [sortI_len] at this
      exact this
/-- slices.Compact of a row of one's own. -/
theorem compact_own (w : World) (base : Nat) (v : Value) (zs : List Int) (ho : w.ownsRow base 3 1 v zs.length (zs.map (Value.int .i64))) (hl : zs.length ≤ 1000000) :
    Calls Try.prog 82 #[v] w fun e w' => ∃ v', e = .returned v' ∧ w'.ownsRow base 3 1 v' (Lib.compact zs).length ((Lib.compact zs).map (Value.int .i64)) ∧ Below base w w' := by
  rcases ho.2 with ⟨rfl, h0⟩ | ⟨g, cap, cur, rfl, hb, hg, hn, hm, hsz, ht⟩
  · refine (Try.slices_Compact_int_empty none 0 w).mono ?_
    rintro e w' ⟨rfl, rfl⟩
    have hz : zs = [] := List.eq_nil_of_length_eq_zero h0
    subst hz
    exact ⟨_, rfl, by simpa [Lib.compact, Lib.compactUpTo] using ho, Below.refl _ _⟩
  · rw [Nat.mul_one] at ht hsz
    refine (Try.slices_Compact_int g 0 cap zs w (own_holds hg ht) (by omega) hn).mono ?_
    rintro e w' ⟨rfl, q, rfl⟩
    have hcl := compact_len zs
    refine ⟨_, rfl, ⟨by simp, .inr ⟨g, cap, _, rfl, hb, put_blk hg q _, by omega, hm, by simp [putCells, hsz], ?_⟩⟩, put_below _ _ hb⟩
    rw [Nat.mul_one]
    have := put_cells_take (Lib.compact zs ++ List.replicate (zs.length - (Lib.compact zs).length) 0) cur (by simp; omega)
    have h2 : ((putCells (Value.int .i64) 0 (Lib.compact zs ++ List.replicate (zs.length - (Lib.compact zs).length) 0).toArray cur).toList.take (Lib.compact zs ++ List.replicate (zs.length - (Lib.compact zs).length) 0).length).take (Lib.compact zs).length = (Lib.compact zs).map (Value.int .i64) := by
      rw [this, List.map_append, List.take_left' (by simp)]
    rw [List.take_take, Nat.min_eq_left (by simp)] at h2
    exact h2
end Go.Proofs.Ytbhcaniopdgjkaa
namespace Go.Proofs.Ytbhcaniopdgjkaa
open Go Go.Proofs Go.RowKit
open Plain (SiteD)
set_option maxHeartbeats 3200000
set_option maxRecDepth 100000
theorem FillI.addL {w w1 w3 : World} {l m : List Int} {v v3 : Value} {o : Obj} (h : FillI w w1 l v)
    (ho : w3.ownsRow w.heap.size 3 1 v3 (l.length + m.length) (l.map (Value.int .i64) ++ m.map (Value.int .i64))) (hg : (w1.alloc o).grownBy w3 v.ownBlock) : FillI w w3 (l ++ m) v3 := by
  have hx1 : Ext w1 (w1.alloc o) := (Ext.refl w1).alloc o
  refine ⟨?_, grow_ext (h.x.trans hx1) (own_ext h.own hx1) hg⟩
  rw [List.length_append, List.map_append]
  exact ho
def flatTo (L : List SiteD) (k : Nat) : List Int := (L.take k).flatMap SiteD.zones
theorem flat_next {L : List SiteD} {k : Nat} {s : SiteD} (h : L[k]? = some s) : flatTo L (k + 1) = flatTo L k ++ s.zones := by
  unfold flatTo; rw [take_snocS h, List.flatMap_append]; simp
theorem flat_len (L : List SiteD) (hz : ∀ s ∈ L, s.zones.length ≤ 12) : ∀ k, (flatTo L k).length ≤ k * 12
  | 0 => by simp [flatTo]
  | k + 1 => by
    have ih := flat_len L hz k
    cases hk : L[k]? with
    | none =>
      have : flatTo L (k + 1) = flatTo L k := by
        have h1 := List.getElem?_eq_none_iff.1 hk
        unfold flatTo
        rw [List.take_of_length_le h1, List.take_of_length_le (by omega)]
      rw [this]; omega
    | some s =>
      rw [flat_next hk, List.length_append]
      have := hz s (List.mem_of_getElem? hk)
      omega
theorem Ext.belowTrans {w w1 w2 : World} (h : Ext w w1) (k : Below w.heap.size w1 w2) : Ext w w2 := Below.trans h k
theorem zones_eq {L : List SiteD} (hv : Plain.sitesF L = (0, 0)) : Lib.compact (sortI (flatTo L L.length)) = Plain.zonesF L := by
  obtain ⟨h1, h2⟩ := compact_law _ (sortI_sorted (flatTo L L.length))
  have h3 : flatTo L L.length = L.flatMap SiteD.zones := by unfold flatTo; rw [List.take_length]
  refine Plain.sorted_eqI h1 (Plain.zones_sorted L) fun z => ?_
  rw [h2, sortI_mem, h3, Plain.mem_zones, List.mem_flatMap]
  constructor
  · rintro ⟨s, hs, hz⟩; exact ⟨(Plain.risingC_iff.1 (Plain.sites_zones hv s hs)).2 z hz, s, hs, hz⟩
  · rintro ⟨_, s, hs, hz⟩; exact ⟨s, hs, hz⟩
theorem zones_c (A : Option Addr) (L : List SiteD) (c1 : Nat) (w : World) (h1 : Sites w A L) (hv : Plain.sitesF L = (0, 0)) :
    Calls Try.prog 49 #[.slice A L.length c1] w (LRet w (Plain.zonesF L)) := by
  have HE := Lib.hid (zones_eq hv)
  have hL := sitesF_len hv
  have hz : ∀ s ∈ L, s.zones.length ≤ 12 := fun s hs => rising_len (n := 12) (Plain.sites_zones hv s hs)
  have HFL := Lib.hid (flat_len L hz)
  have HZL := Lib.hid hz
  obtain ⟨q, hq⟩ : ∃ q, q = L.length := ⟨_, rfl⟩
  rw [← hq] at hL HE ⊢
  have HQ := Lib.hid hq
  have H1 := Lib.hid h1
  obtain ⟨i0, hi, hz0, hz1, hz2⟩ := info_parts info3
  have HI := Lib.hid hi
  have HZ0 := Lib.hid hz0
  have HZ1 := Lib.hid hz1
  have HZ2 := Lib.hid hz2
  clear hv hz hq h1 hi hz0 hz1 hz2
  go_enter Try.func49, Try.ntmps49
  go_wp2
  go_loopw [3, 8] (fun v i wr => ∃ k : Nat, k ≤ q ∧ i = .int .i64 k ∧ FillI w wr (flatTo L k) v) (fun _ i _ => q - (intOf i).toNat)
  case atStart => exact ⟨0, Nat.zero_le _, rfl, fill0 w⟩
  case round =>
    obtain ⟨k, hk, rfl, hr⟩ := hrel
    have HR := Lib.hid hr
    obtain ⟨VA, vc, rfl, _, _, _, _⟩ := own_sl hr.own
    have hlw := hr.x.size
    clear hr
    have hlen := HFL.out k
    obtain ⟨M, hM⟩ : ∃ M, flatTo L k = M := ⟨_, rfl⟩
    rw [hM] at HR hlen
    rw [hM]
    have HMM := Lib.hid hM
    clear hM
    by_cases hlt : k < q
    · have hkl : k < L.length := by rw [← HQ.out]; exact hlt
      obtain ⟨s, hs⟩ : ∃ s, L[k]? = some s := ⟨_, List.getElem?_eq_getElem hkl⟩
      obtain ⟨b, o, rfl, hsite⟩ := H1.out k s hs
      have hzl := HZL.out s (List.mem_of_getElem? hs)
      have HN := Lib.hid ((flat_next hs).trans (by rw [HMM.out]) : flatTo L (k + 1) = M ++ s.zones)
      have hsite := hsite.ext HR.out.x
      obtain ⟨nm, n1, n2, n3⟩ := hsite.name
      obtain ⟨Z, zc, k1, _, _, _, k3⟩ := hsite.zones
      have k4 := hsite.cost
      have k5 := hsite.wear
      have HK3 := Lib.hid k3
      clear hsite hs hkl n2 n3 k3
      have HXA := Lib.hid ((Ext.refl wr).alloc (.cells #[.string nm, .slice Z s.zones.length zc, .int .i64 s.cost, .int .i64 s.wear] 52))
      go_wp2_with (at_builtin; refine wpList_append_sl rfl _ _ 23 rfl w.heap.size 3 i0 (.int .i64 0) 1 8 Try.underlying23 HI.out HZ0.out HZ1.out HZ2.out rfl (by decide) _ M.length (M.map (Value.int .i64)) rfl (HR.out.own.alloc _) Z s.zones.length zc (s.zones.map (Value.int .i64)) rfl (HK3.out.ext HXA.out) (by simp) ints_one (by unfold maxLen; omega) (by omega) (by simp; omega) ?_; intro v3 w3 ho3 hg3 _h3; have HN3 := Lib.hid (HR.out.addL ho3 hg3); obtain ⟨A3, c3', rfl, _, _, _, _⟩ := own_sl ho3; clear ho3 hg3 _h3)
      refine ⟨⟨k + 1, by omega, by go_num, ?_⟩, by simp [intOf]; omega⟩
      rw [HN.out]; simpa using HN3.out
    · have hkq : k = q := by omega
      subst hkq
      rw [HMM.out] at HE
      have HSO := Lib.hid (sort_own wr w.heap.size _ M HR.out.own (by omega) hlw)
      have HCO := Lib.hid (fun w1 (o1 : w1.ownsRow w.heap.size 3 1 (.slice VA M.length vc) M.length ((sortI M).map (Value.int .i64))) => compact_own w1 w.heap.size (.slice VA M.length vc) (sortI M) (by rw [sortI_len]; exact o1) (by rw [sortI_len]; omega))
      go_wp2_with (first | (go_at_call 52; refine HSO.out.mono ?_; rintro e w1 ⟨rfl, ho1, hb1⟩; have HO1 := Lib.hid ho1; have HX1 := Lib.hid (HR.out.x.belowTrans hb1); clear ho1 hb1) | (go_at_call 82; refine (HCO.out _ HO1.out).mono ?_; rintro e w2 ⟨v2, rfl, ho2, hb2⟩; have HO2 := Lib.hid ho2; have HX2 := Lib.hid (HX1.out.belowTrans hb2); obtain ⟨A2, c2, rfl, _, _, _, _⟩ := own_sl ho2; clear ho2 hb2))
      go_ret
      refine ⟨_, rfl, ?_, HX2.out⟩
      rw [← HE.out]
      exact HO2.out
end Go.Proofs.Ytbhcaniopdgjkaa
