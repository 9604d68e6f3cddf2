import Derived.Test.YtbhcaniopdgjkaaShell
namespace Go.Proofs.Ytbhcaniopdgjkaa
open Go Go.RowKit Go.WideShapes Go.ChangeShapes
open Plain (SiteD)
set_option maxRecDepth 100000
theorem cells52 : Try.prog.cellsOf 52 = 4 := by kernel_rfl
theorem cells9 : Try.prog.cellsOf 9 = 1 := by kernel_rfl
theorem cells23 : Try.prog.cellsOf 23 = 1 := by kernel_rfl
theorem cells3 : Try.prog.cellsOf 3 = 1 := by kernel_rfl
theorem take_one {cs : List Value} {i : Nat} (h : i < cs.length) : (cs.drop i).take 1 = [cs[i]] := by
  rw [List.drop_eq_getElem_cons h]; rfl
theorem add_none (b o n : Nat) : (⟨b, o, none⟩ : Addr).add n = ⟨b, o + n, none⟩ := by unfold Addr.add; split <;> simp_all
section
variable {H : Type} {enc : TypeId × Value → H}
theorem site_trod {W : World} {base fuel : Nat} {sp : Nat → Bool} {hd : Bool} {cs : List Value} {x : DataW H × List MemPlace} {b o : Nat} (h : DataW.trod enc Try.prog W base sp hd fuel 52 cs = some x) (hc : ∀ j, j < 4 → W.cell? ⟨b, o + j, none⟩ = cs[j]?) : ∃ s, SiteAt W b o s := by
  obtain ⟨xs, n, _, _, hl, hlen, hg⟩ := DataW.trod_struct Try.underlying52 h
  rw [cells52] at hl
  have get : ∀ (j : Nat) (hj : j < 4) (t : TypeId), Try.prog.cellsOf t = 1 → DataW.trod enc Try.prog W base sp hd n t ((cs.drop j).take (Try.prog.cellsOf t)) = xs[j]? → ∃ x, DataW.trod enc Try.prog W base sp hd n t [cs[j]'(by omega)] = some x := by
    intro j hj t hc he
    rw [hc, take_one (by omega), List.getElem?_eq_getElem (by rw [hlen]; exact hj)] at he
    exact ⟨_, by simpa using he⟩
  obtain ⟨x0, h0⟩ := get 0 (by omega) 9 cells9 (hg 0 _ rfl)
  obtain ⟨x1, h1⟩ := get 1 (by omega) 23 cells23 (hg 1 _ rfl)
  obtain ⟨x2, h2⟩ := get 2 (by omega) 3 cells3 (hg 2 _ rfl)
  obtain ⟨x3, h3⟩ := get 3 (by omega) 3 cells3 (hg 3 _ rfl)
  obtain ⟨nm, e0, _, w0⟩ := DataW.trod_string Try.underlying9 h0
  obtain ⟨l1, ⟨Z, zc, e1, s1, s2, s3, s4⟩, _⟩ := slAt_trod Try.underlying23 Try.underlying3 cells3 h1
  obtain ⟨n2, e2, _, w2⟩ := DataW.trod_int Try.underlying3 h2
  obtain ⟨n3, e3, _, w3⟩ := DataW.trod_int Try.underlying3 h3
  injection e0 with e0
  injection e1 with e1
  injection e2 with e2
  injection e3 with e3
  have c0 := hc 0 (by omega)
  have c1 := hc 1 (by omega)
  have c2 := hc 2 (by omega)
  have c3 := hc 3 (by omega)
  rw [List.getElem?_eq_getElem (by omega)] at c0 c1 c2 c3
  rw [e0] at c0
  rw [e1] at c1
  rw [e2] at c2
  rw [e3] at c3
  exact ⟨⟨nm.data.toList, l1, n2, n3⟩, ⟨nm, c0, rfl, w0⟩, ⟨Z, zc, c1, s1, s2, s3, s4⟩, c2, c3, i64_wf w2, i64_wf w3⟩
theorem open_sites {W : World} {base fuel : Nat} {sp : Nat → Bool} {hd : Bool} {cs : List Value} {x : DataW H × List MemPlace} (h : DataW.trod enc Try.prog W base sp hd fuel 22 cs = some x) :
    ∃ A L c, cs = [.slice A L.length c] ∧ L.length ≤ c ∧ c ≤ maxLen ∧ Sites W A L := by
  rcases DataW.trod_slice Try.underlying22 h with ⟨rfl, _⟩ | ⟨a, len, cap, elems, rest, n, _, rfl, _, hb, hl, hm, hlen, hel, _, _⟩
  · exact ⟨none, [], 0, rfl, Nat.le_refl _, by simp [maxLen], fun i s hs => by simp at hs⟩
  · have hspot : 0 < len → ∃ b o, a = ⟨b, o, none⟩ := by
      intro hi
      have he := hel 0 hi
      rw [cells52, List.getElem?_eq_getElem (by omega)] at he
      obtain ⟨cs', hc, ht⟩ := Option.bind_eq_some_iff.1 he
      obtain ⟨_, hcl, hat⟩ := World.cells?_some hc
      have h0 := hat 0 (by omega)
      rw [List.getElem?_eq_getElem (by omega)] at h0
      obtain ⟨b, o, s⟩ := a
      cases s with
      | none => exact ⟨b, o, rfl⟩
      | some s => simp [Addr.add, World.cell?] at h0; split at h0 <;> simp at h0
    have each : ∀ i, i < len → ∃ s, ∃ b o, a = ⟨b, o, none⟩ ∧ SiteAt W b (o + i * 4) s := by
      intro i hi
      have he := hel i hi
      rw [cells52, List.getElem?_eq_getElem (by omega)] at he
      obtain ⟨cs', hc, ht⟩ := Option.bind_eq_some_iff.1 he
      obtain ⟨_, hcl, hat⟩ := World.cells?_some hc
      obtain ⟨b, o, rfl⟩ := hspot (by omega)
      obtain ⟨s, hsite⟩ := site_trod (b := b) (o := o + i * 4) ht (fun j hj => by
        have := hat j hj
        rw [add_none, add_none] at this
        exact this)
      exact ⟨s, b, o, rfl, hsite⟩
    have hf : ∃ f : Nat → SiteD, ∀ i, i < len → ∃ b o, a = ⟨b, o, none⟩ ∧ SiteAt W b (o + i * 4) (f i) :=
      ⟨fun i => if hi : i < len then (each i hi).choose else ⟨[], [], 0, 0⟩, fun i hi => by simp only [hi, dif_pos]; exact (each i hi).choose_spec⟩
    obtain ⟨f, hf⟩ := hf
    refine ⟨some a, (List.range len).map f, cap, by simp, by simpa using hl, hm, fun i s hs => ?_⟩
    have hi : i < len := by have := (List.getElem?_eq_some_iff.1 hs).1; simpa using this
    have : s = f i := by simpa [hi] using hs.symm
    subst this
    obtain ⟨b, o, rfl, h2⟩ := hf i hi
    exact ⟨b, o, rfl, h2⟩
end
end Go.Proofs.Ytbhcaniopdgjkaa
