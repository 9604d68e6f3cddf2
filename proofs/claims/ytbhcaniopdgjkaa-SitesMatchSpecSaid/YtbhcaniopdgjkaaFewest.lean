import Derived.Test.YtbhcaniopdgjkaaPartsEq
namespace Plain
/-- The specification's least number of sites that are left, zone by zone. -/
def fewF (l : List SiteD) : List Int → List Int → Nat → Nat
  | chosen, [], _ => chosen.length
  | chosen, z :: zs, losses => if losses = 0 ∨ chosen = [] then chosen.length else min (fewF l (leftF l chosen [z]) zs (losses - 1)) (fewF l chosen zs losses)
theorem leftF_len (l : List SiteD) (chosen lost : List Int) : (leftF l chosen lost).length ≤ chosen.length := List.length_filter_le _ _
theorem leftF_nil (l : List SiteD) (chosen : List Int) : leftF l chosen [] = chosen := by
  unfold leftF
  rw [List.filter_eq_self]
  intro i _
  simp [meetB]
theorem leftF_cons (l : List SiteD) (chosen : List Int) (z : Int) (c : List Int) : leftF l (leftF l chosen [z]) c = leftF l chosen (z :: c) := by
  unfold leftF
  rw [List.filter_filter]
  congr 1
  funext i
  have : meetB (zonesAt l i) (z :: c) = (meetB (zonesAt l i) [z] || meetB (zonesAt l i) c) := by
    rw [Bool.eq_iff_iff]
    simp only [meetB, List.any_eq_true, Bool.or_eq_true, List.contains_iff_mem, List.mem_cons, List.not_mem_nil, or_false]
    constructor
    · rintro ⟨x, hx, h | h⟩
      · exact .inl ⟨x, hx, h⟩
      · exact .inr ⟨x, hx, h⟩
    · rintro (⟨x, hx, h⟩ | ⟨x, hx, h⟩)
      · exact ⟨x, hx, .inl h⟩
      · exact ⟨x, hx, .inr h⟩
  rw [this]
  cases meetB (zonesAt l i) [z] <;> cases meetB (zonesAt l i) c <;> rfl
theorem few_spec (l : List SiteD) : ∀ (zs chosen : List Int) (losses : Nat), (∃ c, c.Sublist zs ∧ c.length ≤ losses ∧ fewF l chosen zs losses = (leftF l chosen c).length) ∧ ∀ c, c.Sublist zs → c.length ≤ losses → fewF l chosen zs losses ≤ (leftF l chosen c).length
  | [], chosen, losses => by
    refine ⟨⟨[], List.Sublist.slnil, Nat.zero_le _, by rw [leftF_nil]; rfl⟩, fun c hc _ => ?_⟩
    rw [List.sublist_nil.1 hc, leftF_nil]
    exact Nat.le_refl _
  | z :: zs, chosen, losses => by
    rw [fewF]
    by_cases h : losses = 0 ∨ chosen = []
    · rw [if_pos h]
      refine ⟨⟨[], List.nil_sublist _, Nat.zero_le _, by rw [leftF_nil]⟩, fun c hc hl => ?_⟩
      rcases h with h | h
      · have : c = [] := List.length_eq_zero_iff.1 (by omega)
        rw [this, leftF_nil]; exact Nat.le_refl _
      · rw [h]; exact Nat.zero_le _
    · rw [if_neg h]
      obtain ⟨⟨c1, s1, l1, e1⟩, a1⟩ := few_spec l zs (leftF l chosen [z]) (losses - 1)
      obtain ⟨⟨c2, s2, l2, e2⟩, a2⟩ := few_spec l zs chosen losses
      refine ⟨?_, fun c hc hl => ?_⟩
      · rcases Nat.le_total (fewF l (leftF l chosen [z]) zs (losses - 1)) (fewF l chosen zs losses) with q | q
        · refine ⟨z :: c1, s1.cons_cons z, by simp; omega, ?_⟩
          rw [Nat.min_eq_left q, e1, leftF_cons]
        · exact ⟨c2, s2.cons z, l2, by rw [Nat.min_eq_right q, e2]⟩
      · cases hc with
        | cons _ hc => exact Nat.le_trans (Nat.min_le_right _ _) (a2 c hc hl)
        | cons_cons _ hc =>
          rename_i c'
          refine Nat.le_trans (Nat.min_le_left _ _) ?_
          have := a1 c' hc (by simp at hl; omega)
          rw [leftF_cons l chosen z c'] at this
          exact this
/-- The worst loss leaves as many sites as the specification's search says. -/
theorem few_worst {l : List SiteD} {chosen b : List Int} {losses : Nat} (hb : Best (fun c => (leftF l chosen c).length) (combs (min losses (zonesF l).length) (zonesF l)) b) : fewF l chosen (zonesF l) losses = (leftF l chosen b).length := by
  obtain ⟨⟨c, s, hl, e⟩, a⟩ := few_spec l (zonesF l) chosen losses
  have hbm := (mem_combs _ _ _).1 hb.1
  refine Nat.le_antisymm (a b hbm.1 (by rw [hbm.2]; exact Nat.min_le_left _ _)) ?_
  have hcl : c.length ≤ min losses (zonesF l).length := by
    have := s.length_le
    omega
  obtain ⟨d, d1, d2, d3⟩ := extend_sub (zonesF l) c _ s hcl (Nat.min_le_right _ _)
  have hle : (leftF l chosen b).length ≤ (leftF l chosen d).length := by
    rcases hb.2 d ((mem_combs _ _ _).2 ⟨d2, d3⟩) with h | ⟨h, _⟩ <;> simp only at h <;> omega
  rw [e]
  refine Nat.le_trans hle (left_mono fun i _ hm => ?_)
  simp only [meetB, List.any_eq_true, List.contains_iff_mem] at hm ⊢
  obtain ⟨z, hz, hzl⟩ := hm
  exact ⟨z, hz, d1.subset hzl⟩
end Plain
