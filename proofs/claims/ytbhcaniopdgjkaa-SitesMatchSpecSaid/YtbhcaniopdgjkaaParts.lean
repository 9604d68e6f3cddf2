import Derived.Test.YtbhcaniopdgjkaaSitesM
namespace Plain
section
variable (adj : Nat → Nat → Bool) (n : Nat)
/-- Ways along neighbours. -/
inductive Conn : Nat → Nat → Prop
  | refl (i : Nat) : Conn i i
  | step {i j k : Nat} : Conn i j → adj j k = true → k < n → Conn i k
theorem Conn.trans {i j k : Nat} (h : Conn adj n i j) (h' : Conn adj n j k) : Conn adj n i k := by
  induction h' with
  | refl => exact h
  | step _ h2 h3 ih => exact .step ih h2 h3
theorem Conn.one {i k : Nat} (h : adj i k = true) (hk : k < n) : Conn adj n i k := .step (.refl i) h hk
theorem Conn.symm (hs : ∀ i k, adj i k = adj k i) {i j : Nat} (hi : i < n) (h : Conn adj n i j) : Conn adj n j i := by
  induction h with
  | refl => exact .refl _
  | @step j k h1 h2 h3 ih =>
    have hj : j < n := by cases h1 with
      | refl => exact hi
      | step _ _ h => exact h
    exact (Conn.one adj n (by rw [hs]; exact h2) hj).trans adj n ih
theorem Conn.lt {i j : Nat} (hi : i < n) (h : Conn adj n i j) : j < n := by
  cases h with
  | refl => exact hi
  | step _ _ h => exact h
/-- The program's search: the list of all that has been seen. -/
def visit : Nat → Nat → List Nat → List Nat
  | 0, i, acc => acc ++ [i]
  | fuel + 1, i, acc => (List.range n).foldl (fun a k => if !(a.contains k) && adj i k then visit fuel k a else a) (acc ++ [i])
def unseen (acc : List Nat) : Nat := ((List.range n).filter fun k => !acc.contains k).length
theorem unseen_mono {a b : List Nat} (h : ∀ x ∈ a, x ∈ b) : unseen n b ≤ unseen n a := by
  unfold unseen
  rw [← List.countP_eq_length_filter, ← List.countP_eq_length_filter]
  refine List.countP_mono_left fun k _ hk => ?_
  simp only [Bool.not_eq_true', List.contains_eq_mem, decide_eq_false_iff_not] at hk ⊢
  exact fun hm => hk (h k hm)
theorem unseen_lt {a : List Nat} {i : Nat} (hi : i < n) (h : i ∉ a) : unseen n (a ++ [i]) < unseen n a := by
  unfold unseen
  have e : ((List.range n).filter fun k => !(a ++ [i]).contains k) = ((List.range n).filter fun k => !a.contains k).filter fun k => !(k == i) := by
    rw [List.filter_filter]
    congr 1
    funext k
    rw [Bool.eq_iff_iff]
    simp
    exact And.comm
  rw [e]
  have hm : i ∈ (List.range n).filter fun k => !a.contains k := by simp [hi, h]
  rcases Nat.lt_or_ge (((List.range n).filter fun k => !a.contains k).filter fun k => !(k == i)).length ((List.range n).filter fun k => !a.contains k).length with q | q
  · exact q
  · have := List.length_filter_eq_length_iff.1 (Nat.le_antisymm (List.length_filter_le _ _) q) i hm
    simp at this
structure Post (i : Nat) (acc r : List Nat) : Prop where
  pre : ∃ g, r = acc ++ g
  self : i ∈ r
  lt : ∀ x ∈ r, x < n
  nodup : r.Nodup
  conn : ∀ x ∈ r, x ∉ acc → Conn adj n i x
  closed : ∀ x ∈ r, x ∉ acc → ∀ k, k < n → adj x k = true → k ∈ r
theorem visit_post : ∀ (fuel i : Nat) (acc : List Nat), unseen n acc ≤ fuel → i < n → i ∉ acc → (∀ x ∈ acc, x < n) → acc.Nodup → Post adj n i acc (visit adj n fuel i acc)
  | 0, i, acc, hf, hi, hni, _, _ => by
    exfalso
    have := unseen_lt n hi hni
    omega
  | fuel + 1, i, acc, hf, hi, hni, hlt, hnd => by
    have key : ∀ (ks : List Nat) (a done : List Nat), (∀ k ∈ ks, k < n) → (∃ g, a = acc ++ [i] ++ g) → (∀ x ∈ a, x < n) → a.Nodup → (∀ x ∈ a, x ∉ acc → Conn adj n i x) → (∀ x ∈ a, x ∉ acc → x ≠ i → ∀ k, k < n → adj x k = true → k ∈ a) → (∀ k ∈ done, adj i k = true → k ∈ a) →
        ∃ r, ks.foldl (fun a k => if !(a.contains k) && adj i k then visit adj n fuel k a else a) a = r ∧ (∃ g, r = acc ++ [i] ++ g) ∧ (∀ x ∈ r, x < n) ∧ r.Nodup ∧ (∀ x ∈ r, x ∉ acc → Conn adj n i x) ∧ (∀ x ∈ r, x ∉ acc → x ≠ i → ∀ k, k < n → adj x k = true → k ∈ r) ∧ (∀ k ∈ done ++ ks, adj i k = true → k ∈ r) := by
      intro ks
      induction ks with
      | nil => intro a done _ h1 h2 h3 h4 h5 h6; exact ⟨a, rfl, h1, h2, h3, h4, h5, by simpa using h6⟩
      | cons k ks ih =>
        intro a done hk h1 h2 h3 h4 h5 h6
        rw [List.foldl_cons]
        have e : done ++ k :: ks = (done ++ [k]) ++ ks := by simp
        rw [e]
        have hkn : k < n := hk k (by simp)
        by_cases hc : (!(a.contains k) && adj i k) = true
        · rw [if_pos hc]
          simp only [Bool.and_eq_true, Bool.not_eq_true', List.contains_eq_mem, decide_eq_false_iff_not] at hc
          obtain ⟨g0, hg0⟩ := h1
          have hfu : unseen n a ≤ fuel := by
            have q1 := unseen_lt n hi hni
            have q2 : unseen n a ≤ unseen n (acc ++ [i]) := unseen_mono n fun x hx => by rw [hg0]; simp at hx ⊢; rcases hx with hx | hx <;> simp [hx]
            omega
          have hp := visit_post fuel k a hfu hkn hc.1 h2 h3
          obtain ⟨g1, hg1⟩ := hp.pre
          have hsub : ∀ x ∈ a, x ∈ visit adj n fuel k a := fun x hx => by rw [hg1]; simp [hx]
          have hik : Conn adj n i k := Conn.one adj n hc.2 hkn
          refine ih _ _ (fun q hq => hk q (by simp [hq])) ⟨g0 ++ g1, by rw [hg1, hg0]; simp⟩ hp.lt hp.nodup ?_ ?_ ?_
          · intro x hx hxa
            by_cases hxa2 : x ∈ a
            · exact h4 x hxa2 hxa
            · exact hik.trans adj n (hp.conn x hx hxa2)
          · intro x hx hxa hxi q hq hadj
            by_cases hxa2 : x ∈ a
            · exact hsub q (h5 x hxa2 hxa hxi q hq hadj)
            · exact hp.closed x hx hxa2 q hq hadj
          · intro q hq hadj
            rcases List.mem_append.1 hq with hq | hq
            · exact hsub q (h6 q hq hadj)
            · rw [List.mem_singleton.1 hq]; exact hp.self
        · rw [if_neg hc]
          refine ih _ _ (fun q hq => hk q (by simp [hq])) h1 h2 h3 h4 h5 ?_
          intro q hq hadj
          rcases List.mem_append.1 hq with hq | hq
          · exact h6 q hq hadj
          · have hqk := List.mem_singleton.1 hq
            subst hqk
            simp only [Bool.and_eq_true, Bool.not_eq_true', List.contains_eq_mem, decide_eq_false_iff_not, not_and] at hc
            by_cases hm : q ∈ a
            · exact hm
            · exact absurd hadj (hc hm)
    have hstart : ∀ x ∈ acc ++ [i], x < n := fun x hx => by
      rcases List.mem_append.1 hx with hx | hx
      · exact hlt x hx
      · rw [List.mem_singleton.1 hx]; exact hi
    have hnd1 : (acc ++ [i]).Nodup := List.nodup_append.2 ⟨hnd, by simp, fun x hx y hy e => by rw [List.mem_singleton.1 hy] at e; exact hni (e ▸ hx)⟩
    obtain ⟨r, hr, ⟨g, hg⟩, r2, r3, r4, r5, r6⟩ := key (List.range n) (acc ++ [i]) [] (fun k hk => List.mem_range.1 hk) ⟨[], by simp⟩ hstart hnd1
      (fun x hx hxa => by
        rcases List.mem_append.1 hx with hx | hx
        · exact absurd hx hxa
        · rw [List.mem_singleton.1 hx]; exact .refl i)
      (fun x hx hxa hxi => by
        rcases List.mem_append.1 hx with hx | hx
        · exact absurd hx hxa
        · exact absurd (List.mem_singleton.1 hx) hxi)
      (fun k hk => by simp at hk)
    have hv : visit adj n (fuel + 1) i acc = r := by rw [visit]; exact hr
    rw [hv]
    refine ⟨⟨[i] ++ g, by rw [hg]; simp⟩, by rw [hg]; simp, r2, r3, r4, ?_⟩
    intro x hx hxa k hk hadj
    by_cases hxi : x = i
    · subst hxi; exact r6 k (by simpa using hk) hadj
    · exact r5 x hx hxa hxi k hk hadj
/-- What has been seen is whole parts. -/
def Closed (acc : List Nat) : Prop := ∀ x ∈ acc, ∀ k, k < n → adj x k = true → k ∈ acc
theorem visit_part (hs : ∀ i k, adj i k = adj k i) {fuel i : Nat} {acc : List Nat} (hf : unseen n acc ≤ fuel) (hi : i < n) (hni : i ∉ acc) (hlt : ∀ x ∈ acc, x < n) (hnd : acc.Nodup) (hc : Closed adj n acc) :
    ∃ g, visit adj n fuel i acc = acc ++ g ∧ g.Nodup ∧ (∀ x, x ∈ g ↔ Conn adj n i x) ∧ Closed adj n (acc ++ g) ∧ (∀ x ∈ acc ++ g, x < n) ∧ (acc ++ g).Nodup := by
  have hp := visit_post adj n fuel i acc hf hi hni hlt hnd
  obtain ⟨g, hg⟩ := hp.pre
  have hnd2 := hp.nodup
  rw [hg] at hnd2
  have hdis : ∀ x ∈ g, x ∉ acc := fun x hx hxa => (List.nodup_append.1 hnd2).2.2 x hxa x hx rfl
  have hcl : Closed adj n (acc ++ g) := by
    intro x hx k hk hadj
    by_cases hxa : x ∈ acc
    · exact List.mem_append.2 (.inl (hc x hxa k hk hadj))
    · have := hp.closed x (by rw [hg]; exact hx) hxa k hk hadj
      rw [hg] at this; exact this
  refine ⟨g, hg, (List.nodup_append.1 hnd2).2.1, fun x => ⟨fun hx => hp.conn x (by rw [hg]; simp [hx]) (hdis x hx), fun hx => ?_⟩, hcl, by rw [← hg]; exact hp.lt, hnd2⟩
  induction hx with
  | refl =>
    have := hp.self
    rw [hg] at this
    rcases List.mem_append.1 this with h | h
    · exact absurd h hni
    · exact h
  | @step j k h1 h2 h3 ih =>
    have hm := hcl j (by simp [ih]) k h3 h2
    rcases List.mem_append.1 hm with h | h
    · have hj : j < n := Conn.lt adj n hi h1
      exact absurd (hc k h j hj (by rw [hs]; exact h2)) (hdis j ih)
    · exact h
end
end Plain
