import Derived.Test.YtbhcaniopdgjkaaLaw6
import Derived.Test.YtbhcaniopdgjkaaSmall
namespace Go.Proofs.Ytbhcaniopdgjkaa
open Go Go.Proofs Go.RowKit
open Plain (SiteD)
set_option maxHeartbeats 1000000
set_option maxRecDepth 100000
theorem part_closed {L : List SiteD} {k : Nat} {g : List Nat} (h : (partsN L)[k]? = some g) : (∀ j ∈ g, j < L.length) ∧ ∀ j ∈ g, ∀ i, i < L.length → adjF L j i = true → i ∈ g := by
  rw [partsN_C] at h
  have hm := List.mem_of_getElem? h
  unfold Plain.partsC at hm
  obtain ⟨i0, hi0, rfl⟩ := List.mem_map.1 hm
  have hlt : i0 < L.length := by have := (List.mem_filter.1 hi0).1; simpa using this
  refine ⟨fun j hj => ?_, fun j hj i hi ha => ?_⟩
  · unfold Plain.compL at hj
    have := (List.mem_filter.1 hj).1
    simpa using this
  · rw [Plain.mem_compL (adjF L) L.length (fun _ _ => meets_comm _ _) hlt] at hj ⊢
    exact .step hj ha hi
/-- The zones of a part, below n. -/
def zsTo (L : List SiteD) (g : List Int) (n : Nat) : List Int := ((List.range n).map Int.ofNat).filter fun z => g.any fun j => hasB (Plain.zonesAt L j) z
theorem zsTo_next (L : List SiteD) (g : List Int) (k : Nat) : zsTo L g (k + 1) = zsTo L g k ++ (if (g.any fun j => hasB (Plain.zonesAt L j) (k : Int)) = true then [(k : Int)] else []) := by
  unfold zsTo
  rw [List.range_succ, List.map_append, List.filter_append]
  congr 1
  show List.filter _ [(k : Int)] = _
  rw [List.filter_cons]
  rfl
theorem zsTo_len (L : List SiteD) (g : List Int) (k : Nat) : (zsTo L g k).length ≤ k := by
  unfold zsTo
  refine Nat.le_trans (List.length_filter_le _ _) ?_
  simp
theorem range_rising (n : Nat) (p : Int → Bool) : Plain.risingC (((List.range n).map Int.ofNat).filter p) n = 0 :=
  Plain.risingC_iff.2 ⟨(Plain.range_sorted n).sublist List.filter_sublist, fun _ hx => Plain.mem_range_int.1 (List.mem_filter.1 hx).1⟩
theorem all_rising (n : Nat) : Plain.risingC (upTo n) n = 0 :=
  Plain.risingC_iff.2 ⟨Plain.range_sorted n, fun _ hx => Plain.mem_range_int.1 hx⟩
theorem indep_fault {L : List SiteD} (hv : Plain.sitesF L = (0, 0)) (g : List Int) : leftFault L (upTo L.length) (zsTo L g 12) = (0, 0) := by
  unfold leftFault
  have h1 : Plain.chosenF L (upTo L.length) = (0, 0) := by
    unfold Plain.chosenF
    rw [if_pos hv, if_neg (by rw [all_rising]; simp)]
  rw [if_neg (by simpa using h1), if_neg (by have := range_rising 12 (fun z => g.any fun j => hasB (Plain.zonesAt L j) z); simpa [zsTo] using this)]
theorem indep_law {L : List SiteD} (hv : Plain.sitesF L = (0, 0)) {k : Nat} {gN : List Nat} (h : (partsN L)[k]? = some gN) {i : Nat} {s : SiteD} (hs : L[i]? = some s) :
    hasB (leftR L (upTo L.length) (zsTo L (gN.map Int.ofNat) 12)) (i : Int) = !(hasB (gN.map Int.ofNat) (i : Int) && decide ((0 : Int) < s.zones.length)) := by
  obtain ⟨hlt, hcl⟩ := part_closed h
  have hi : i < L.length := (List.getElem?_eq_some_iff.1 hs).1
  have hz : Plain.zonesAt L (i : Int) = s.zones := by unfold Plain.zonesAt; rw [Int.toNat_natCast, hs]; rfl
  have hzr := Plain.risingC_iff.1 (Plain.sites_zones hv s (List.mem_of_getElem? hs))
  unfold leftR
  rw [if_pos (indep_fault hv _)]
  rw [Bool.eq_iff_iff]
  unfold hasB Plain.leftF
  rw [List.contains_iff_mem, List.mem_filter, hz]
  have hmem : (i : Int) ∈ upTo L.length := Plain.mem_range_int.2 ⟨by omega, by omega⟩
  simp only [hmem, true_and, Bool.not_eq_true', ← Bool.not_eq_true, Bool.and_eq_true, decide_eq_true_eq, List.contains_iff_mem]
  refine not_congr ?_
  unfold Plain.meetB
  rw [List.any_eq_true]
  simp only [List.contains_iff_mem]
  constructor
  · rintro ⟨z, hz1, hz2⟩
    refine ⟨?_, ?_⟩
    · unfold zsTo at hz2
      obtain ⟨_, h2⟩ := List.mem_filter.1 hz2
      obtain ⟨j, hj, hjz⟩ := List.any_eq_true.1 h2
      obtain ⟨j', hj', rfl⟩ := List.mem_map.1 hj
      refine List.mem_map.2 ⟨i, hcl j' hj' i hi ?_, rfl⟩
      unfold adjF meetsB
      rw [List.any_eq_true]
      refine ⟨z, ?_, ?_⟩
      · simpa [hasB] using hjz
      · rw [hz]; simpa [hasB] using hz1
    · have := List.length_pos_of_mem hz1
      omega
  · rintro ⟨hg, hl⟩
    obtain ⟨z, hz1⟩ : ∃ z, z ∈ s.zones := by
      cases hc : s.zones with
      | nil => rw [hc] at hl; simp at hl
      | cons z r => exact ⟨z, by simp⟩
    refine ⟨z, hz1, ?_⟩
    unfold zsTo
    rw [List.mem_filter]
    refine ⟨Plain.mem_range_int.2 (hzr.2 z hz1), List.any_eq_true.2 ⟨(i : Int), hg, ?_⟩⟩
    rw [hz]; simpa [hasB] using hz1
end Go.Proofs.Ytbhcaniopdgjkaa
