import Derived.Test.YtbhcaniopdgjkaaFewest
namespace Plain
theorem sorted_eqI : ∀ {a b : List Int}, a.Pairwise (· < ·) → b.Pairwise (· < ·) → (∀ x, x ∈ a ↔ x ∈ b) → a = b
  | [], [], _, _, _ => rfl
  | [], y :: b, _, _, h => absurd ((h y).2 (by simp)) (by simp)
  | x :: a, [], _, _, h => absurd ((h x).1 (by simp)) (by simp)
  | x :: a, y :: b, ha, hb, h => by
    obtain ⟨ha1, ha2⟩ := List.pairwise_cons.1 ha
    obtain ⟨hb1, hb2⟩ := List.pairwise_cons.1 hb
    have e : x = y := by
      rcases List.mem_cons.1 ((h x).1 (by simp)) with q | q
      · exact q
      · rcases List.mem_cons.1 ((h y).2 (by simp)) with q' | q'
        · exact q'.symm
        · have := ha1 y q'; have := hb1 x q; omega
    subst e
    rw [sorted_eqI ha2 hb2]
    intro z
    have hz := h z
    constructor
    · intro q
      have hzx := ha1 z q
      rcases List.mem_cons.1 (hz.1 (by simp [q])) with q' | q'
      · omega
      · exact q'
    · intro q
      have hzx := hb1 z q
      rcases List.mem_cons.1 (hz.2 (by simp [q])) with q' | q'
      · omega
      · exact q'
/-- Of equal neighbours one. -/
def compactL : List Int → List Int
  | [] => []
  | [x] => [x]
  | x :: y :: r => if x = y then compactL (y :: r) else x :: compactL (y :: r)
theorem mem_compact : ∀ (l : List Int) (z : Int), z ∈ compactL l ↔ z ∈ l
  | [], z => Iff.rfl
  | [x], z => Iff.rfl
  | x :: y :: r, z => by
    rw [compactL]
    by_cases h : x = y
    · rw [if_pos h, mem_compact (y :: r) z, h]
      simp
    · rw [if_neg h, List.mem_cons, mem_compact (y :: r) z, List.mem_cons]
      simp
theorem compact_sorted : ∀ (l : List Int), l.Pairwise (· ≤ ·) → (compactL l).Pairwise (· < ·)
  | [], _ => List.Pairwise.nil
  | [x], _ => by simp [compactL]
  | x :: y :: r, h => by
    obtain ⟨h1, h2⟩ := List.pairwise_cons.1 h
    rw [compactL]
    by_cases e : x = y
    · rw [if_pos e]; exact compact_sorted (y :: r) h2
    · rw [if_neg e]
      refine List.pairwise_cons.2 ⟨fun z hz => ?_, compact_sorted (y :: r) h2⟩
      have hz' := (mem_compact (y :: r) z).1 hz
      have hxy := h1 y (by simp)
      rcases List.mem_cons.1 hz' with q | q
      · omega
      · have := (List.pairwise_cons.1 h2).1 z q; omega
/-- The program's zones are the specification's. -/
theorem zones_prog {l : List SiteD} (hv : ∀ s ∈ l, ∀ z ∈ s.zones, 0 ≤ z ∧ z < 12) {L : List Int} (hm : ∀ z, z ∈ L ↔ z ∈ l.flatMap SiteD.zones) (hs : L.Pairwise (· ≤ ·)) : compactL L = zonesF l := by
  refine sorted_eqI (compact_sorted L hs) (zones_sorted l) fun z => ?_
  rw [mem_compact, hm, mem_zones, List.mem_flatMap]
  constructor
  · rintro ⟨s, hs, hz⟩; exact ⟨hv s hs z hz, s, hs, hz⟩
  · rintro ⟨_, s, hs, hz⟩; exact ⟨s, hs, hz⟩
/-- What valid sites are. -/
theorem sitesGo_ok : ∀ {r before : List SiteD}, sitesGo before r = (0, 0) → ∀ s ∈ r, risingC s.zones 12 = 0
  | [], _, _, s, hs => by simp at hs
  | t :: r, before, h, s, hs => by
    rw [sitesGo] at h
    by_cases hc : siteC before t ≠ 0
    · rw [if_pos hc] at h
      injection h with h1 _
      exact absurd h1 hc
    · rw [if_neg hc] at h
      rcases List.mem_cons.1 hs with rfl | hs
      · have hc : siteC before s = 0 := Classical.byContradiction fun q => hc q
        unfold siteC at hc
        by_cases h1 : nameB s.name = false
        · rw [if_pos h1] at hc; cases hc
        rw [if_neg h1] at hc
        by_cases h2 : risingC s.zones 12 ≠ 0
        · rw [if_pos h2] at hc; exact absurd hc h2
        · exact Classical.byContradiction fun q => h2 q
      · exact sitesGo_ok h s hs
theorem sites_zones {l : List SiteD} (h : sitesF l = (0, 0)) : ∀ s ∈ l, risingC s.zones 12 = 0 := by
  unfold sitesF at h
  by_cases h1 : 10 < l.length
  · rw [if_pos h1] at h; cases h
  · rw [if_neg h1] at h; exact sitesGo_ok h
theorem sites_len {l : List SiteD} (h : sitesF l = (0, 0)) : l.length ≤ 10 := by
  unfold sitesF at h
  by_cases h1 : 10 < l.length
  · rw [if_pos h1] at h; cases h
  · omega
theorem zonesAt_mem {l : List SiteD} (h : sitesF l = (0, 0)) (i z : Int) (hz : z ∈ zonesAt l i) : z ∈ zonesF l := by
  unfold zonesAt at hz
  cases hs : l[i.toNat]? with
  | none => rw [hs] at hz; simp at hz
  | some s =>
    rw [hs] at hz
    simp at hz
    have hm := List.mem_of_getElem? hs
    exact mem_zones.2 ⟨(risingC_iff.1 (sites_zones h s hm)).2 z hz, s, hm, hz⟩
end Plain
