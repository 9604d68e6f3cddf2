import Derived.Test.YtbhcaniopdgjkaaMg6
import Derived.Carry
import Derived.ChangeSlices
import Derived.OpenShut
import Derived.ProofKit
namespace Go.Proofs.Ytbhcaniopdgjkaa
open Go Go.RowKit Go.WideShapes Go.ChangeShapes
def SlAt (w : World) (k : IntKind) (o : Option Value) (l : List Int) : Prop :=
  ∃ A c, o = some (.slice A l.length c) ∧ l.length ≤ c ∧ c ≤ maxLen ∧ (A = none → c = 0) ∧ Sl w k A l
section
variable {H : Type} {enc : TypeId × Value → H} {P : Program}
/-- The arguments read behind the call as they read before. -/
theorem trodAll_stay (hl : laidOutB P = true) {W W' : World} (hb : Below W.heap.size W W') (sp : Nat → Bool) : ∀ {ts : List TypeId} {vs : List Value} {ds : List (DataW H)} {ps : List MemPlace},
    (∀ t ∈ ts, P.readableRec t = true ∧ t < P.types.size) → DataW.TrodAll enc P W 0 (fun _ => true) true ts vs ds ps → (∀ x ∈ ps, x.block < W.heap.size) → (∀ x ∈ ps, sp x.block = true) → DataW.TrodAll enc P W' 0 sp true ts vs ds ps
  | [], vs, ds, ps, _, h, _, _ => by
    obtain ⟨rfl, rfl, rfl⟩ := trodAll_nil h
    exact trodAll_mk0
  | t :: ts, vs, ds, ps, ht, h, hlt, hsp => by
    obtain ⟨v, vs', d, ds', p, q, rfl, rfl, rfl, h0, hr⟩ := trodAll_cons h
    refine trodAll_cons_mk (WideElems.Trod_stays hl (ht t (by simp)).1 (ht t (by simp)).2 h0 (fun x hx => hb.same (hlt x (by simp [hx]))) fun x hx => hsp x (by simp [hx])) ?_
    exact trodAll_stay hl hb sp (fun t' h' => ht t' (by simp [h'])) hr (fun x hx => hlt x (by simp [hx])) fun x hx => hsp x (by simp [hx])
/-- A law that answers true and leaves all that was there. -/
theorem law_post {f : Func} {s : ChangeSpec} {W W' : World} {args : Array Value} {ds gs : List (DataW H)} {before : List MemPlace} {tb : TypeId} {fresh handsOn again : Bool}
    (hl : laidOutB P = true) (hps : ∀ t ∈ f.params.toList, P.readableRec t = true ∧ t < P.types.size) (hrt : f.resultTypes = #[tb]) (htb : P.underlying tb = some .bool)
    (hvars : s.vars = []) (hfn : (s.fn H ds) = { results := [.lit (.bool true)], args := ds })
    (hW : DataW.Whole enc P f.params.toList s.vars false W args.toList ds gs before) (hb : Below W.heap.size W W') :
    s.post enc P f false fresh handsOn again W args (.bool true) W' := by
  have hlt : ∀ p ∈ before, p.block < W.heap.size := fun p hp => hW.lt p hp
  have hW' := hW
  obtain ⟨pa, pv, hA, hV, hpp, hz, hn⟩ := hW
  rw [hvars] at hV
  obtain ⟨hg, hpv⟩ := trodVars_none hV
  subst hg
  subst hpv
  rw [List.append_nil] at hpp
  subst hpp
  have hold : ∀ p ∈ before, (fun b => decide (b < W.heap.size)) p.block = true := fun p hp => by simpa using hlt p hp
  have hres : ∀ (b : Nat) (sp : Nat → Bool) (hd : Bool), DataW.TrodAll enc P W' b sp hd f.resultTypes.toList ((Value.bool true).resultList f.resultTypes.size) (s.fn H (ds ++ [])).results [] := fun b sp hd => by
    rw [hrt, List.append_nil, hfn]
    exact trodAll_cons_mk (shut_bool htb _) trodAll_mk0
  have hargs : ∀ sp : Nat → Bool, (∀ p ∈ before, sp p.block = true) → DataW.TrodAll enc P W' 0 sp true f.params.toList args.toList (s.fn H (ds ++ [])).args before := fun sp hsp => by
    rw [List.append_nil, hfn]
    exact trodAll_stay hl hb sp hps hA hlt hsp
  have hvv : ∀ sp : Nat → Bool, DataW.TrodVars enc P W' sp s.vars (s.fn H (ds ++ [])).vars [] := fun sp => by
    rw [hvars, List.append_nil, hfn]
    exact rfl
  refine ⟨ds, [], before, [], before, [], hW', hres _ _ _, hargs _ hold, hvv _, World.keptBut_mono (fun p hp => ⟨hp, Or.inr (by simpa using hp)⟩) (hb.frame (· ∈ before)), fun _ => ?_⟩
  refine ⟨?_, _, _, ([] ++ before) ++ [], ⟨[] ++ before, [], trodAll_append (hargs _ (fun _ _ => rfl)) (hres _ _ _), hvv _, rfl, ?_, ?_⟩, ?_⟩
  · intro j t r hj hr
    rw [hrt] at hj hr
    match j, hj, hr with
    | 0, hj, hr =>
      simp [Value.resultList] at hj hr
      subst hj; subst hr
      exact okWide_bool_mk htb _
  · intro b off hp
    have hin : MemPlace.cell b off ∈ before := by simpa using hp
    rw [hb.frozen (hlt _ hin)]
    exact hz b off hin
  · intro ha
    cases ha
  · intro p hp _
    simpa using hp
/-- An argument (or a field) that is a slice of integers. -/
theorem slAt_trod {w : World} {base : Nat} {spare : Nat → Bool} {held : Bool} {t e : TypeId} {k : IntKind} {fuel : Nat} {v : Value} {x : DataW H × List MemPlace} (ht : P.underlying t = some (.slice e)) (he : P.underlying e = some (.int k)) (hc : P.cellsOf e = 1)
    (h : DataW.trod enc P w base spare held fuel t [v] = some x) : ∃ l, SlAt w k (some v) l ∧ ∀ n ∈ l, (Lit.int k n).wf = true := by
  rcases open_ints ht he hc h with ⟨hv, _⟩ | ⟨a, len, cap, zs, hv, _, hlc, hcm, hz, _, hcell, hwf⟩
  · injection hv with hv
    subst hv
    exact ⟨[], ⟨none, 0, rfl, Nat.le_refl _, by simp [maxLen], fun _ => rfl, SlC.nil _ _⟩, fun n hn => by simp at hn⟩
  · injection hv with hv
    subst hv
    have hzl : len ≤ zs.length := by rw [hz]; split <;> omega
    refine ⟨zs.take len, ⟨some a, cap, by rw [List.length_take, Nat.min_eq_left hzl], by rw [List.length_take]; omega, hcm, (fun h => by cases h), ?_⟩, fun n hn => hwf n (List.mem_of_mem_take hn)⟩
    refine Sl.mk fun i y hy => ⟨a, rfl, ?_⟩
    rw [List.getElem?_take] at hy
    split at hy
    · have hl := (List.getElem?_eq_some_iff.1 hy).1
      rw [hcell i hl]
      simp [hy]
    · cases hy
end
theorem i64_wf {n : Int} (h : (Lit.int .i64 n).wf = true) : I64 n := by
  simp [Lit.wf, IntKind.min, IntKind.max, IntKind.signed, IntKind.bits] at h
  exact ⟨by omega, by omega⟩
end Go.Proofs.Ytbhcaniopdgjkaa
namespace Go.Proofs.Ytbhcaniopdgjkaa
open Go Go.RowKit Go.WideShapes Go.ChangeShapes
open Plain (SiteD)
set_option maxRecDepth 100000
theorem cells52 : Try.prog.cellsOf 52 = 4 := by kernel_rfl
theorem cells9 : Try.prog.cellsOf 9 = 1 := by kernel_rfl
theorem cells23 : Try.prog.cellsOf 23 = 1 := by kernel_rfl
theorem cells3 : Try.prog.cellsOf 3 = 1 := by kernel_rfl
theorem take_one {cs : List Value} {i : Nat} (h : i < cs.length) : (cs.drop i).take 1 = [cs[i]] := by
  rw [List.drop_eq_getElem_cons h]; rfl
theorem add_none (b o n : Nat) : (⟨b, o, none⟩ : Addr).add n = ⟨b, o + n, none⟩ := by unfold Addr.add; split <;> simp_all
section
variable {H : Type} {enc : TypeId × Value → H}
theorem site_trod {W : World} {base fuel : Nat} {sp : Nat → Bool} {hd : Bool} {cs : List Value} {x : DataW H × List MemPlace} {b o : Nat} (h : DataW.trod enc Try.prog W base sp hd fuel 52 cs = some x) (hc : ∀ j, j < 4 → W.cell? ⟨b, o + j, none⟩ = cs[j]?) : ∃ s, SiteAt W b o s := by
  obtain ⟨xs, n, _, _, hl, hlen, hg⟩ := DataW.trod_struct Try.underlying52 h
  rw [cells52] at hl
  have get : ∀ (j : Nat) (hj : j < 4) (t : TypeId), Try.prog.cellsOf t = 1 → DataW.trod enc Try.prog W base sp hd n t ((cs.drop j).take (Try.prog.cellsOf t)) = xs[j]? → ∃ x, DataW.trod enc Try.prog W base sp hd n t [cs[j]'(by omega)] = some x := by
    intro j hj t hc he
    rw [hc, take_one (by omega), List.getElem?_eq_getElem (by rw [hlen]; exact hj)] at he
    exact ⟨_, by simpa using he⟩
  obtain ⟨x0, h0⟩ := get 0 (by omega) 9 cells9 (hg 0 _ rfl)
  obtain ⟨x1, h1⟩ := get 1 (by omega) 23 cells23 (hg 1 _ rfl)
  obtain ⟨x2, h2⟩ := get 2 (by omega) 3 cells3 (hg 2 _ rfl)
  obtain ⟨x3, h3⟩ := get 3 (by omega) 3 cells3 (hg 3 _ rfl)
  obtain ⟨nm, e0, _, w0⟩ := DataW.trod_string Try.underlying9 h0
  obtain ⟨l1, ⟨Z, zc, e1, s1, s2, s3, s4⟩, _⟩ := slAt_trod Try.underlying23 Try.underlying3 cells3 h1
  obtain ⟨n2, e2, _, w2⟩ := DataW.trod_int Try.underlying3 h2
  obtain ⟨n3, e3, _, w3⟩ := DataW.trod_int Try.underlying3 h3
  injection e0 with e0
  injection e1 with e1
  injection e2 with e2
  injection e3 with e3
  have c0 := hc 0 (by omega)
  have c1 := hc 1 (by omega)
  have c2 := hc 2 (by omega)
  have c3 := hc 3 (by omega)
  rw [List.getElem?_eq_getElem (by omega)] at c0 c1 c2 c3
  rw [e0] at c0
  rw [e1] at c1
  rw [e2] at c2
  rw [e3] at c3
  exact ⟨⟨nm.data.toList, l1, n2, n3⟩, ⟨nm, c0, rfl, w0⟩, ⟨Z, zc, c1, s1, s2, s3, s4⟩, c2, c3, i64_wf w2, i64_wf w3⟩
theorem open_sites {W : World} {base fuel : Nat} {sp : Nat → Bool} {hd : Bool} {cs : List Value} {x : DataW H × List MemPlace} (h : DataW.trod enc Try.prog W base sp hd fuel 22 cs = some x) :
    ∃ A L c, cs = [.slice A L.length c] ∧ L.length ≤ c ∧ c ≤ maxLen ∧ Sites W A L := by
  rcases DataW.trod_slice Try.underlying22 h with ⟨rfl, _⟩ | ⟨a, len, cap, elems, rest, n, _, rfl, _, hb, hl, hm, hlen, hel, _, _⟩
  · exact ⟨none, [], 0, rfl, Nat.le_refl _, by simp [maxLen], fun i s hs => by simp at hs⟩
  · have hspot : 0 < len → ∃ b o, a = ⟨b, o, none⟩ := by
      intro hi
      have he := hel 0 hi
      rw [cells52, List.getElem?_eq_getElem (by omega)] at he
      obtain ⟨cs', hc, ht⟩ := Option.bind_eq_some_iff.1 he
      obtain ⟨_, hcl, hat⟩ := World.cells?_some hc
      have h0 := hat 0 (by omega)
      rw [List.getElem?_eq_getElem (by omega)] at h0
      obtain ⟨b, o, s⟩ := a
      cases s with
      | none => exact ⟨b, o, rfl⟩
      | some s => simp [Addr.add, World.cell?] at h0; split at h0 <;> simp at h0
    have each : ∀ i, i < len → ∃ s, ∃ b o, a = ⟨b, o, none⟩ ∧ SiteAt W b (o + i * 4) s := by
      intro i hi
      have he := hel i hi
      rw [cells52, List.getElem?_eq_getElem (by omega)] at he
      obtain ⟨cs', hc, ht⟩ := Option.bind_eq_some_iff.1 he
      obtain ⟨_, hcl, hat⟩ := World.cells?_some hc
      obtain ⟨b, o, rfl⟩ := hspot (by omega)
      obtain ⟨s, hsite⟩ := site_trod (b := b) (o := o + i * 4) ht (fun j hj => by
        have := hat j hj
        rw [add_none, add_none] at this
        exact this)
      exact ⟨s, b, o, rfl, hsite⟩
    have hf : ∃ f : Nat → SiteD, ∀ i, i < len → ∃ b o, a = ⟨b, o, none⟩ ∧ SiteAt W b (o + i * 4) (f i) :=
      ⟨fun i => if hi : i < len then (each i hi).choose else ⟨[], [], 0, 0⟩, fun i hi => by simp only [hi, dif_pos]; exact (each i hi).choose_spec⟩
    obtain ⟨f, hf⟩ := hf
    refine ⟨some a, (List.range len).map f, cap, by simp, by simpa using hl, hm, fun i s hs => ?_⟩
    have hi : i < len := by have := (List.getElem?_eq_some_iff.1 hs).1; simpa using this
    have : s = f i := by simpa [hi] using hs.symm
    subst this
    obtain ⟨b, o, rfl, h2⟩ := hf i hi
    exact ⟨b, o, rfl, h2⟩
end
end Go.Proofs.Ytbhcaniopdgjkaa
