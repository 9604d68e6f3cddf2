/- What the Renewal claims share: how media, kinds of media and numbers that come in are read, and a first world. -/
import Derived.Test.YtnijfndpefkoeaaRows
import Derived.Test.YtnijfndpefkoeaaShell
import Derived.Test.YtnijfndpefkoeaaRnA
import Derived.Deep.DeepHandedRow
namespace Go.Proofs.Ytnijfndpefkoeaa
open Go Go.ChangeShapes Go.WideShapes Go.ChangeAt Go.RowKit
set_option maxRecDepth 100000
theorem own : ownKnob Try.prog.godebug = none := by kernel_rfl
theorem laidOut : laidOutB Try.prog = true := by kernel_rfl
noncomputable def firstWorld (os : Os) : World := World.holding Try.prog os ⟨#[], #[], []⟩
theorem cells3 : Try.prog.cellsOf 3 = 1 := by kernel_rfl
theorem take_one {cs : List Value} {i : Nat} (h : i < cs.length) : (cs.drop i).take 1 = [cs[i]] := by
  rw [List.drop_eq_getElem_cons h]; rfl
theorem add_none (b o n : Nat) : (⟨b, o, none⟩ : Addr).add n = ⟨b, o + n, none⟩ := by unfold Addr.add; split <;> simp_all
def PairAt (W : World) (b o : Nat) (p : Int × Int) : Prop := W.cell? ⟨b, o, none⟩ = some (.int .i64 p.1) ∧ W.cell? ⟨b, o + 1, none⟩ = some (.int .i64 p.2)
theorem prsV_split : ∀ (L : List (Int × Int)) (i : Nat) (u : Value), (prsV L)[i]? = some u → ∃ p, L[i / 2]? = some p ∧ (i % 2 = 0 ∧ u = .int .i64 p.1 ∨ i % 2 = 1 ∧ u = .int .i64 p.2)
  | [], i, u, h => by simp [prsV] at h
  | p :: L, 0, u, h => by
    rw [prsV_cons] at h
    exact ⟨p, rfl, .inl ⟨rfl, by simpa [prV] using h.symm⟩⟩
  | p :: L, 1, u, h => by
    rw [prsV_cons] at h
    exact ⟨p, rfl, .inr ⟨rfl, by simpa [prV] using h.symm⟩⟩
  | p :: L, i + 2, u, h => by
    rw [prsV_cons] at h
    obtain ⟨q, h1, h2⟩ := prsV_split L i u (by simpa [prV] using h)
    refine ⟨q, ?_, ?_⟩
    · rw [show (i + 2) / 2 = i / 2 + 1 by omega, List.getElem?_cons_succ]; exact h1
    · rw [show (i + 2) % 2 = i % 2 by omega]; exact h2
theorem prs_of {W : World} {a : Addr} {L : List (Int × Int)} (h : ∀ i p, L[i]? = some p → ∃ b o, a = ⟨b, o, none⟩ ∧ PairAt W b (o + i * 2) p) : Prs W (some a) L := by
  intro i u hu
  obtain ⟨p, hp, hc⟩ := prsV_split L i u hu
  obtain ⟨b, o, rfl, h0, h1⟩ := h _ p hp
  refine ⟨_, rfl, ?_⟩
  rw [add_none]
  rcases hc with ⟨e, rfl⟩ | ⟨e, rfl⟩
  · rw [show o + i = o + i / 2 * 2 by omega]; exact h0
  · rw [show o + i = o + i / 2 * 2 + 1 by omega]; exact h1
def SlAt (w : World) (k : IntKind) (o : Option Value) (l : List Int) : Prop :=
  ∃ A c, o = some (.slice A l.length c) ∧ l.length ≤ c ∧ c ≤ maxLen ∧ (A = none → c = 0) ∧ Sl w k A l
section
variable {H : Type} {enc : TypeId × Value → H} {P : Program}
theorem slAt_trod {w : World} {base : Nat} {spare : Nat → Bool} {held : Bool} {t e : TypeId} {k : IntKind} {fuel : Nat} {v : Value} {x : DataW H × List MemPlace} (ht : P.underlying t = some (.slice e)) (he : P.underlying e = some (.int k)) (hc : P.cellsOf e = 1)
    (h : DataW.trod enc P w base spare held fuel t [v] = some x) : ∃ l, SlAt w k (some v) l ∧ ∀ n ∈ l, (Lit.int k n).wf = true := by
  rcases open_ints ht he hc h with ⟨hv, _⟩ | ⟨a, len, cap, zs, hv, _, hlc, hcm, hz, _, hcell, hwf⟩
  · injection hv with hv
    subst hv
    exact ⟨[], ⟨none, 0, rfl, Nat.le_refl _, by simp [maxLen], fun _ => rfl, SlC.nil _ _⟩, fun n hn => by simp at hn⟩
  · injection hv with hv
    subst hv
    have hzl : len ≤ zs.length := by rw [hz]; split <;> omega
    refine ⟨zs.take len, ⟨some a, cap, by rw [List.length_take, Nat.min_eq_left hzl], by rw [List.length_take]; omega, hcm, (fun h => by cases h), ?_⟩, fun n hn => hwf n (List.mem_of_mem_take hn)⟩
    refine Sl.mk fun i y hy => ⟨a, rfl, ?_⟩
    rw [List.getElem?_take] at hy
    split at hy
    · have hl := (List.getElem?_eq_some_iff.1 hy).1
      rw [hcell i hl]
      simp [hy]
    · cases hy
end
section
variable {H : Type} {enc : TypeId × Value → H}
theorem cellsmed : Try.prog.cellsOf 23 = 2 := by kernel_rfl
theorem pair_med {W : World} {base fuel : Nat} {sp : Nat → Bool} {hd : Bool} {cs : List Value} {x : DataW H × List MemPlace} {b o : Nat} (h : DataW.trod enc Try.prog W base sp hd fuel 23 cs = some x) (hc : ∀ j, j < 2 → W.cell? ⟨b, o + j, none⟩ = cs[j]?) : ∃ p, PairAt W b o p := by
  obtain ⟨xs, n, _, _, hl, hlen, hg⟩ := DataW.trod_struct Try.underlying23 h
  rw [cellsmed] at hl
  have get : ∀ (j : Nat) (hj : j < 2) (t : TypeId), Try.prog.cellsOf t = 1 → DataW.trod enc Try.prog W base sp hd n t ((cs.drop j).take (Try.prog.cellsOf t)) = xs[j]? → ∃ x, DataW.trod enc Try.prog W base sp hd n t [cs[j]'(by omega)] = some x := by
    intro j hj t hc he
    rw [hc, take_one (by omega), List.getElem?_eq_getElem (by rw [hlen]; exact hj)] at he
    exact ⟨_, by simpa using he⟩
  obtain ⟨x0, h0⟩ := get 0 (by omega) 3 cells3 (hg 0 _ rfl)
  obtain ⟨x1, h1⟩ := get 1 (by omega) 3 cells3 (hg 1 _ rfl)
  obtain ⟨n0, e0, _, _⟩ := DataW.trod_int Try.underlying3 h0
  obtain ⟨n1, e1, _, _⟩ := DataW.trod_int Try.underlying3 h1
  injection e0 with e0
  injection e1 with e1
  have c0 := hc 0 (by omega)
  have c1 := hc 1 (by omega)
  rw [List.getElem?_eq_getElem (by omega)] at c0 c1
  rw [e0] at c0
  rw [e1] at c1
  exact ⟨(n0, n1), c0, c1⟩
theorem open_med {W : World} {base fuel : Nat} {sp : Nat → Bool} {hd : Bool} {cs : List Value} {x : DataW H × List MemPlace} (h : DataW.trod enc Try.prog W base sp hd fuel 24 cs = some x) :
    ∃ A L c, cs = [.slice A L.length c] ∧ L.length ≤ c ∧ c ≤ maxLen ∧ Prs W A L := by
  rcases DataW.trod_slice Try.underlying24 h with ⟨rfl, _⟩ | ⟨a, len, cap, elems, rest, n, _, rfl, _, hb, hl, hm, hlen, hel, _, _⟩
  · exact ⟨none, [], 0, rfl, Nat.le_refl _, by simp [maxLen], SlC.nil _ _⟩
  · have hspot : 0 < len → ∃ b o, a = ⟨b, o, none⟩ := by
      intro hi
      have he := hel 0 hi
      rw [cellsmed, List.getElem?_eq_getElem (by omega)] at he
      obtain ⟨cs', hc, ht⟩ := Option.bind_eq_some_iff.1 he
      obtain ⟨_, hcl, hat⟩ := World.cells?_some hc
      have h0 := hat 0 (by omega)
      rw [List.getElem?_eq_getElem (by omega)] at h0
      obtain ⟨b, o, s⟩ := a
      cases s with
      | none => exact ⟨b, o, rfl⟩
      | some s => simp [Addr.add, World.cell?] at h0; split at h0 <;> simp at h0
    have each : ∀ i, i < len → ∃ p, ∃ b o, a = ⟨b, o, none⟩ ∧ PairAt W b (o + i * 2) p := by
      intro i hi
      have he := hel i hi
      rw [cellsmed, List.getElem?_eq_getElem (by omega)] at he
      obtain ⟨cs', hc, ht⟩ := Option.bind_eq_some_iff.1 he
      obtain ⟨_, hcl, hat⟩ := World.cells?_some hc
      obtain ⟨b, o, rfl⟩ := hspot (by omega)
      obtain ⟨s, hsite⟩ := pair_med (b := b) (o := o + i * 2) ht (fun j hj => by
        have := hat j hj
        rw [add_none, add_none] at this
        exact this)
      exact ⟨s, b, o, rfl, hsite⟩
    have hf : ∃ f : Nat → Int × Int, ∀ i, i < len → ∃ b o, a = ⟨b, o, none⟩ ∧ PairAt W b (o + i * 2) (f i) :=
      ⟨fun i => if hi : i < len then (each i hi).choose else (0, 0), fun i hi => by simp only [hi, dif_pos]; exact (each i hi).choose_spec⟩
    obtain ⟨f, hf⟩ := hf
    refine ⟨some a, (List.range len).map f, cap, by simp, by simpa using hl, hm, prs_of fun i s hs => ?_⟩
    have hi : i < len := by have := (List.getElem?_eq_some_iff.1 hs).1; simpa using this
    have : s = f i := by simpa [hi] using hs.symm
    subst this
    exact hf i hi
theorem cellsknd : Try.prog.cellsOf 55 = 2 := by kernel_rfl
theorem pair_knd {W : World} {base fuel : Nat} {sp : Nat → Bool} {hd : Bool} {cs : List Value} {x : DataW H × List MemPlace} {b o : Nat} (h : DataW.trod enc Try.prog W base sp hd fuel 55 cs = some x) (hc : ∀ j, j < 2 → W.cell? ⟨b, o + j, none⟩ = cs[j]?) : ∃ p, PairAt W b o p := by
  obtain ⟨xs, n, _, _, hl, hlen, hg⟩ := DataW.trod_struct Try.underlying55 h
  rw [cellsknd] at hl
  have get : ∀ (j : Nat) (hj : j < 2) (t : TypeId), Try.prog.cellsOf t = 1 → DataW.trod enc Try.prog W base sp hd n t ((cs.drop j).take (Try.prog.cellsOf t)) = xs[j]? → ∃ x, DataW.trod enc Try.prog W base sp hd n t [cs[j]'(by omega)] = some x := by
    intro j hj t hc he
    rw [hc, take_one (by omega), List.getElem?_eq_getElem (by rw [hlen]; exact hj)] at he
    exact ⟨_, by simpa using he⟩
  obtain ⟨x0, h0⟩ := get 0 (by omega) 3 cells3 (hg 0 _ rfl)
  obtain ⟨x1, h1⟩ := get 1 (by omega) 3 cells3 (hg 1 _ rfl)
  obtain ⟨n0, e0, _, _⟩ := DataW.trod_int Try.underlying3 h0
  obtain ⟨n1, e1, _, _⟩ := DataW.trod_int Try.underlying3 h1
  injection e0 with e0
  injection e1 with e1
  have c0 := hc 0 (by omega)
  have c1 := hc 1 (by omega)
  rw [List.getElem?_eq_getElem (by omega)] at c0 c1
  rw [e0] at c0
  rw [e1] at c1
  exact ⟨(n0, n1), c0, c1⟩
theorem open_knd {W : World} {base fuel : Nat} {sp : Nat → Bool} {hd : Bool} {cs : List Value} {x : DataW H × List MemPlace} (h : DataW.trod enc Try.prog W base sp hd fuel 47 cs = some x) :
    ∃ A L c, cs = [.slice A L.length c] ∧ L.length ≤ c ∧ c ≤ maxLen ∧ Prs W A L := by
  rcases DataW.trod_slice Try.underlying47 h with ⟨rfl, _⟩ | ⟨a, len, cap, elems, rest, n, _, rfl, _, hb, hl, hm, hlen, hel, _, _⟩
  · exact ⟨none, [], 0, rfl, Nat.le_refl _, by simp [maxLen], SlC.nil _ _⟩
  · have hspot : 0 < len → ∃ b o, a = ⟨b, o, none⟩ := by
      intro hi
      have he := hel 0 hi
      rw [cellsknd, List.getElem?_eq_getElem (by omega)] at he
      obtain ⟨cs', hc, ht⟩ := Option.bind_eq_some_iff.1 he
      obtain ⟨_, hcl, hat⟩ := World.cells?_some hc
      have h0 := hat 0 (by omega)
      rw [List.getElem?_eq_getElem (by omega)] at h0
      obtain ⟨b, o, s⟩ := a
      cases s with
      | none => exact ⟨b, o, rfl⟩
      | some s => simp [Addr.add, World.cell?] at h0; split at h0 <;> simp at h0
    have each : ∀ i, i < len → ∃ p, ∃ b o, a = ⟨b, o, none⟩ ∧ PairAt W b (o + i * 2) p := by
      intro i hi
      have he := hel i hi
      rw [cellsknd, List.getElem?_eq_getElem (by omega)] at he
      obtain ⟨cs', hc, ht⟩ := Option.bind_eq_some_iff.1 he
      obtain ⟨_, hcl, hat⟩ := World.cells?_some hc
      obtain ⟨b, o, rfl⟩ := hspot (by omega)
      obtain ⟨s, hsite⟩ := pair_knd (b := b) (o := o + i * 2) ht (fun j hj => by
        have := hat j hj
        rw [add_none, add_none] at this
        exact this)
      exact ⟨s, b, o, rfl, hsite⟩
    have hf : ∃ f : Nat → Int × Int, ∀ i, i < len → ∃ b o, a = ⟨b, o, none⟩ ∧ PairAt W b (o + i * 2) (f i) :=
      ⟨fun i => if hi : i < len then (each i hi).choose else (0, 0), fun i hi => by simp only [hi, dif_pos]; exact (each i hi).choose_spec⟩
    obtain ⟨f, hf⟩ := hf
    refine ⟨some a, (List.range len).map f, cap, by simp, by simpa using hl, hm, prs_of fun i s hs => ?_⟩
    have hi : i < len := by have := (List.getElem?_eq_some_iff.1 hs).1; simpa using this
    have : s = f i := by simpa [hi] using hs.symm
    subst this
    exact hf i hi
end
section
variable {H : Type} {enc : TypeId × Value → H} {W : World} {base : Nat} {sp : Nat → Bool} {held : Bool} {r : Reach} {b0 : Nat} {v : Value} {d : DataW H} {ps : List MemPlace}
theorem arg_media (hval : Value.okWide Try.prog W r b0 24 v) (hd : DataW.Trod enc Try.prog W base sp held 24 v d ps) : ∃ A L c, v = .slice A L.length c ∧ L.length ≤ c ∧ c ≤ maxLen ∧ Prs W A L := by
  obtain ⟨a, len, cap, rfl⟩ := okWide_slice Try.underlying24 hval
  obtain ⟨fuel, hf⟩ := hd
  obtain ⟨A, L, c, h1, h2, h3, h4⟩ := open_med hf
  have h5 : [Value.slice a len cap] = [Value.slice A L.length c] := h1
  injection h5 with h5
  exact ⟨A, L, c, h5, h2, h3, h4⟩
theorem arg_kinds (hval : Value.okWide Try.prog W r b0 47 v) (hd : DataW.Trod enc Try.prog W base sp held 47 v d ps) : ∃ A L c, v = .slice A L.length c ∧ L.length ≤ c ∧ c ≤ maxLen ∧ Prs W A L := by
  obtain ⟨a, len, cap, rfl⟩ := okWide_slice Try.underlying47 hval
  obtain ⟨fuel, hf⟩ := hd
  obtain ⟨A, L, c, h1, h2, h3, h4⟩ := open_knd hf
  have h5 : [Value.slice a len cap] = [Value.slice A L.length c] := h1
  injection h5 with h5
  exact ⟨A, L, c, h5, h2, h3, h4⟩
theorem arg_ints (hval : Value.okWide Try.prog W r b0 29 v) (hd : DataW.Trod enc Try.prog W base sp held 29 v d ps) : ∃ A l c, v = .slice A l.length c ∧ l.length ≤ maxLen ∧ Sl W .i64 A l := by
  obtain ⟨a, len, cap, rfl⟩ := okWide_slice Try.underlying29 hval
  obtain ⟨fuel, hf⟩ := hd
  have hf' : DataW.trod enc Try.prog W base sp held fuel 29 [Value.slice a len cap] = some (d, ps) := hf
  obtain ⟨l, ⟨A, c, h1, h2, h3, _, h4⟩, _⟩ := slAt_trod Try.underlying29 Try.underlying3 cells3 hf'
  injection h1 with h1
  exact ⟨A, l, c, h1, Nat.le_trans h2 h3, h4⟩
theorem arg_medium (hval : Value.okWide Try.prog W r b0 23 v) (hd : DataW.Trod enc Try.prog W base sp held 23 v d ps) : ∃ m : Int × Int, v = .agg #[.int .i64 m.1, .int .i64 m.2] := by
  obtain ⟨cs, rfl, hsz⟩ := okWide_struct Try.underlying23 hval
  rw [cellsmed] at hsz
  obtain ⟨fuel, hf⟩ := hd
  obtain ⟨xs, n, _, _, _, hlen, hg⟩ := DataW.trod_struct Try.underlying23 hf
  have hl : cs.toList.length = 2 := by simpa using hsz
  have hcl : (Value.agg cs).cells.toList = cs.toList := by simp [Value.cells]
  rw [hcl] at hg
  have get : ∀ (j : Nat) (hj : j < 2), DataW.trod enc Try.prog W base sp held n 3 ((cs.toList.drop j).take (Try.prog.cellsOf 3)) = xs[j]? → ∃ x, DataW.trod enc Try.prog W base sp held n 3 [cs[j]'(by omega)] = some x := by
    intro j hj he
    rw [cells3, take_one (by omega), List.getElem?_eq_getElem (by rw [hlen]; exact hj)] at he
    exact ⟨_, by simpa using he⟩
  obtain ⟨x0, h0⟩ := get 0 (by omega) (hg 0 _ rfl)
  obtain ⟨x1, h1⟩ := get 1 (by omega) (hg 1 _ rfl)
  obtain ⟨a, e0, _, _⟩ := DataW.trod_int Try.underlying3 h0
  obtain ⟨b, e1, _, _⟩ := DataW.trod_int Try.underlying3 h1
  injection e0 with e0
  injection e1 with e1
  refine ⟨(a, b), ?_⟩
  congr 1
  apply Array.ext
  · simpa using hsz
  · intro i hi _
    match i with
    | 0 => simpa using e0
    | 1 => simpa using e1
    | n + 2 => omega
end
end Go.Proofs.Ytnijfndpefkoeaa
