import Derived.Test.YtbhcaniopdgjkaaMg5
import Derived.Test.YtbhcaniopdgjkaaMg4
namespace Plain
/-- The specification's least number of sites that are left, zone by zone. -/
def fewF (l : List SiteD) : List Int → List Int → Nat → Nat
  | chosen, [], _ => chosen.length
  | chosen, z :: zs, losses => if losses = 0 ∨ chosen = [] then chosen.length else min (fewF l (leftF l chosen [z]) zs (losses - 1)) (fewF l chosen zs losses)
theorem leftF_len (l : List SiteD) (chosen lost : List Int) : (leftF l chosen lost).length ≤ chosen.length := List.length_filter_le _ _
theorem leftF_nil (l : List SiteD) (chosen : List Int) : leftF l chosen [] = chosen := by
  unfold leftF
  rw [List.filter_eq_self]
  intro i _
  simp [meetB]
theorem leftF_cons (l : List SiteD) (chosen : List Int) (z : Int) (c : List Int) : leftF l (leftF l chosen [z]) c = leftF l chosen (z :: c) := by
  unfold leftF
  rw [List.filter_filter]
  congr 1
  funext i
  have : meetB (zonesAt l i) (z :: c) = (meetB (zonesAt l i) [z] || meetB (zonesAt l i) c) := by
    rw [Bool.eq_iff_iff]
    simp only [meetB, List.any_eq_true, Bool.or_eq_true, List.contains_iff_mem, List.mem_cons, List.not_mem_nil, or_false]
    constructor
    · rintro ⟨x, hx, h | h⟩
      · exact .inl ⟨x, hx, h⟩
      · exact .inr ⟨x, hx, h⟩
    · rintro (⟨x, hx, h⟩ | ⟨x, hx, h⟩)
      · exact ⟨x, hx, .inl h⟩
      · exact ⟨x, hx, .inr h⟩
  rw [this]
  cases meetB (zonesAt l i) [z] <;> cases meetB (zonesAt l i) c <;> rfl
theorem few_spec (l : List SiteD) : ∀ (zs chosen : List Int) (losses : Nat), (∃ c, c.Sublist zs ∧ c.length ≤ losses ∧ fewF l chosen zs losses = (leftF l chosen c).length) ∧ ∀ c, c.Sublist zs → c.length ≤ losses → fewF l chosen zs losses ≤ (leftF l chosen c).length
  | [], chosen, losses => by
    refine ⟨⟨[], List.Sublist.slnil, Nat.zero_le _, by rw [leftF_nil]; rfl⟩, fun c hc _ => ?_⟩
    rw [List.sublist_nil.1 hc, leftF_nil]
    exact Nat.le_refl _
  | z :: zs, chosen, losses => by
    rw [fewF]
    by_cases h : losses = 0 ∨ chosen = []
    · rw [if_pos h]
      refine ⟨⟨[], List.nil_sublist _, Nat.zero_le _, by rw [leftF_nil]⟩, fun c hc hl => ?_⟩
      rcases h with h | h
      · have : c = [] := List.length_eq_zero_iff.1 (by omega)
        rw [this, leftF_nil]; exact Nat.le_refl _
      · rw [h]; exact Nat.zero_le _
    · rw [if_neg h]
      obtain ⟨⟨c1, s1, l1, e1⟩, a1⟩ := few_spec l zs (leftF l chosen [z]) (losses - 1)
      obtain ⟨⟨c2, s2, l2, e2⟩, a2⟩ := few_spec l zs chosen losses
      refine ⟨?_, fun c hc hl => ?_⟩
      · rcases Nat.le_total (fewF l (leftF l chosen [z]) zs (losses - 1)) (fewF l chosen zs losses) with q | q
        · refine ⟨z :: c1, s1.cons_cons z, by simp; omega, ?_⟩
          rw [Nat.min_eq_left q, e1, leftF_cons]
        · exact ⟨c2, s2.cons z, l2, by rw [Nat.min_eq_right q, e2]⟩
      · cases hc with
        | cons _ hc => exact Nat.le_trans (Nat.min_le_right _ _) (a2 c hc hl)
        | cons_cons _ hc =>
          rename_i c'
          refine Nat.le_trans (Nat.min_le_left _ _) ?_
          have := a1 c' hc (by simp at hl; omega)
          rw [leftF_cons l chosen z c'] at this
          exact this
/-- The worst loss leaves as many sites as the specification's search says. -/
theorem few_worst {l : List SiteD} {chosen b : List Int} {losses : Nat} (hb : Best (fun c => (leftF l chosen c).length) (combs (min losses (zonesF l).length) (zonesF l)) b) : fewF l chosen (zonesF l) losses = (leftF l chosen b).length := by
  obtain ⟨⟨c, s, hl, e⟩, a⟩ := few_spec l (zonesF l) chosen losses
  have hbm := (mem_combs _ _ _).1 hb.1
  refine Nat.le_antisymm (a b hbm.1 (by rw [hbm.2]; exact Nat.min_le_left _ _)) ?_
  have hcl : c.length ≤ min losses (zonesF l).length := by
    have := s.length_le
    omega
  obtain ⟨d, d1, d2, d3⟩ := extend_sub (zonesF l) c _ s hcl (Nat.min_le_right _ _)
  have hle : (leftF l chosen b).length ≤ (leftF l chosen d).length := by
    rcases hb.2 d ((mem_combs _ _ _).2 ⟨d2, d3⟩) with h | ⟨h, _⟩ <;> simp only at h <;> omega
  rw [e]
  refine Nat.le_trans hle (left_mono fun i _ hm => ?_)
  simp only [meetB, List.any_eq_true, List.contains_iff_mem] at hm ⊢
  obtain ⟨z, hz, hzl⟩ := hm
  exact ⟨z, hz, d1.subset hzl⟩
end Plain
namespace Plain
theorem sorted_eqI : ∀ {a b : List Int}, a.Pairwise (· < ·) → b.Pairwise (· < ·) → (∀ x, x ∈ a ↔ x ∈ b) → a = b
  | [], [], _, _, _ => rfl
  | [], y :: b, _, _, h => absurd ((h y).2 (by simp)) (by simp)
  | x :: a, [], _, _, h => absurd ((h x).1 (by simp)) (by simp)
  | x :: a, y :: b, ha, hb, h => by
    obtain ⟨ha1, ha2⟩ := List.pairwise_cons.1 ha
    obtain ⟨hb1, hb2⟩ := List.pairwise_cons.1 hb
    have e : x = y := by
      rcases List.mem_cons.1 ((h x).1 (by simp)) with q | q
      · exact q
      · rcases List.mem_cons.1 ((h y).2 (by simp)) with q' | q'
        · exact q'.symm
        · have := ha1 y q'; have := hb1 x q; omega
    subst e
    rw [sorted_eqI ha2 hb2]
    intro z
    have hz := h z
    constructor
    · intro q
      have hzx := ha1 z q
      rcases List.mem_cons.1 (hz.1 (by simp [q])) with q' | q'
      · omega
      · exact q'
    · intro q
      have hzx := hb1 z q
      rcases List.mem_cons.1 (hz.2 (by simp [q])) with q' | q'
      · omega
      · exact q'
/-- Of equal neighbours one. -/
def compactL : List Int → List Int
  | [] => []
  | [x] => [x]
  | x :: y :: r => if x = y then compactL (y :: r) else x :: compactL (y :: r)
theorem mem_compact : ∀ (l : List Int) (z : Int), z ∈ compactL l ↔ z ∈ l
  | [], z => Iff.rfl
  | [x], z => Iff.rfl
  | x :: y :: r, z => by
    rw [compactL]
    by_cases h : x = y
    · rw [if_pos h, mem_compact (y :: r) z, h]
      simp
    · rw [if_neg h, List.mem_cons, mem_compact (y :: r) z, List.mem_cons]
      simp
theorem compact_sorted : ∀ (l : List Int), l.Pairwise (· ≤ ·) → (compactL l).Pairwise (· < ·)
  | [], _ => List.Pairwise.nil
  | [x], _ => by simp [compactL]
  | x :: y :: r, h => by
    obtain ⟨h1, h2⟩ := List.pairwise_cons.1 h
    rw [compactL]
    by_cases e : x = y
    · rw [if_pos e]; exact compact_sorted (y :: r) h2
    · rw [if_neg e]
      refine List.pairwise_cons.2 ⟨fun z hz => ?_, compact_sorted (y :: r) h2⟩
      have hz' := (mem_compact (y :: r) z).1 hz
      have hxy := h1 y (by simp)
      rcases List.mem_cons.1 hz' with q | q
      · omega
      · have := (List.pairwise_cons.1 h2).1 z q; omega
/-- The program's zones are the specification's. -/
theorem zones_prog {l : List SiteD} (hv : ∀ s ∈ l, ∀ z ∈ s.zones, 0 ≤ z ∧ z < 12) {L : List Int} (hm : ∀ z, z ∈ L ↔ z ∈ l.flatMap SiteD.zones) (hs : L.Pairwise (· ≤ ·)) : compactL L = zonesF l := by
  refine sorted_eqI (compact_sorted L hs) (zones_sorted l) fun z => ?_
  rw [mem_compact, hm, mem_zones, List.mem_flatMap]
  constructor
  · rintro ⟨s, hs, hz⟩; exact ⟨hv s hs z hz, s, hs, hz⟩
  · rintro ⟨_, s, hs, hz⟩; exact ⟨s, hs, hz⟩
/-- What valid sites are. -/
theorem sitesGo_ok : ∀ {r before : List SiteD}, sitesGo before r = (0, 0) → ∀ s ∈ r, risingC s.zones 12 = 0
  | [], _, _, s, hs => by simp at hs
  | t :: r, before, h, s, hs => by
    rw [sitesGo] at h
    by_cases hc : siteC before t ≠ 0
    · rw [if_pos hc] at h
      injection h with h1 _
      exact absurd h1 hc
    · rw [if_neg hc] at h
      rcases List.mem_cons.1 hs with rfl | hs
      · have hc : siteC before s = 0 := Classical.byContradiction fun q => hc q
        unfold siteC at hc
        by_cases h1 : nameB s.name = false
        · rw [if_pos h1] at hc; cases hc
        rw [if_neg h1] at hc
        by_cases h2 : risingC s.zones 12 ≠ 0
        · rw [if_pos h2] at hc; exact absurd hc h2
        · exact Classical.byContradiction fun q => h2 q
      · exact sitesGo_ok h s hs
theorem sites_zones {l : List SiteD} (h : sitesF l = (0, 0)) : ∀ s ∈ l, risingC s.zones 12 = 0 := by
  unfold sitesF at h
  by_cases h1 : 10 < l.length
  · rw [if_pos h1] at h; cases h
  · rw [if_neg h1] at h; exact sitesGo_ok h
theorem sites_len {l : List SiteD} (h : sitesF l = (0, 0)) : l.length ≤ 10 := by
  unfold sitesF at h
  by_cases h1 : 10 < l.length
  · rw [if_pos h1] at h; cases h
  · omega
theorem zonesAt_mem {l : List SiteD} (h : sitesF l = (0, 0)) (i z : Int) (hz : z ∈ zonesAt l i) : z ∈ zonesF l := by
  unfold zonesAt at hz
  cases hs : l[i.toNat]? with
  | none => rw [hs] at hz; simp at hz
  | some s =>
    rw [hs] at hz
    simp at hz
    have hm := List.mem_of_getElem? hs
    exact mem_zones.2 ⟨(risingC_iff.1 (sites_zones h s hm)).2 z hz, s, hm, hz⟩
end Plain
namespace Plain
/-- One choice is better than another: cost, number, order. -/
def betterB (cost : List Int → Int) (c b : List Int) : Bool := decide (cost c < cost b) || (decide (cost c = cost b) && (decide (c.length < b.length) || (decide (c.length = b.length) && lexB c b)))
/-- The search for the cheapest choice with a property. -/
def scanCheap (cost : List Int → Int) (prop : List Int → Bool) : List (List Int) → Option (List Int) → Option (List Int)
  | [], st => st
  | c :: cs, none => scanCheap cost prop cs (if prop c then some c else none)
  | c :: cs, some b => scanCheap cost prop cs (if betterB cost c b && prop c then some c else some b)
theorem scanCheap_congr {cost : List Int → Int} {p q : List Int → Bool} : ∀ (cs : List (List Int)) (st : Option (List Int)), (∀ c ∈ cs, p c = q c) → scanCheap cost p cs st = scanCheap cost q cs st
  | [], _, _ => rfl
  | c :: cs, none, h => by rw [scanCheap, scanCheap, h c (by simp)]; exact scanCheap_congr cs _ fun d hd => h d (by simp [hd])
  | c :: cs, some b, h => by rw [scanCheap, scanCheap, h c (by simp)]; exact scanCheap_congr cs _ fun d hd => h d (by simp [hd])
/-- What is found has the property, is a candidate, and none with the property costs less. -/
structure Found (cost : List Int → Int) (prop : List Int → Bool) (cs : List (List Int)) (st : Option (List Int)) : Prop where
  none_ : st = none → ∀ c ∈ cs, prop c = false
  some_ : ∀ b, st = some b → b ∈ cs ∧ prop b = true ∧ ∀ c ∈ cs, prop c = true → cost b ≤ cost c
theorem better_le {cost : List Int → Int} {c b : List Int} (h : betterB cost c b = true) : cost c ≤ cost b := by
  simp only [betterB, Bool.or_eq_true, Bool.and_eq_true, decide_eq_true_eq] at h
  rcases h with h | ⟨h, _⟩ <;> omega
theorem better_not {cost : List Int → Int} {c b : List Int} (h : betterB cost c b = false) : cost b ≤ cost c := by
  rcases Int.lt_or_le (cost c) (cost b) with q | q
  · simp [betterB, q] at h
  · exact q
theorem scanCheap_found {cost : List Int → Int} {prop : List Int → Bool} : ∀ (cs pre : List (List Int)) (st : Option (List Int)), Found cost prop pre st → Found cost prop (pre ++ cs) (scanCheap cost prop cs st)
  | [], pre, st, h => by simpa [scanCheap] using h
  | c :: cs, pre, none, h => by
    have e : pre ++ c :: cs = (pre ++ [c]) ++ cs := by simp
    rw [e, scanCheap]
    refine scanCheap_found cs (pre ++ [c]) _ ?_
    have hn := h.none_ rfl
    by_cases hp : prop c = true
    · rw [if_pos hp]
      refine ⟨fun q => (by cases q), fun b hb => ?_⟩
      cases hb
      refine ⟨by simp, hp, fun d hd hpd => ?_⟩
      rcases List.mem_append.1 hd with hd | hd
      · rw [hn d hd] at hpd; cases hpd
      · rw [List.mem_singleton.1 hd]; exact Int.le_refl _
    · rw [if_neg hp]
      refine ⟨fun _ d hd => ?_, fun b hb => (by cases hb)⟩
      rcases List.mem_append.1 hd with hd | hd
      · exact hn d hd
      · rw [List.mem_singleton.1 hd]; simpa using hp
  | c :: cs, pre, some b, h => by
    have e : pre ++ c :: cs = (pre ++ [c]) ++ cs := by simp
    rw [e, scanCheap]
    refine scanCheap_found cs (pre ++ [c]) _ ?_
    obtain ⟨h1, h2, h3⟩ := h.some_ b rfl
    by_cases hc : (betterB cost c b && prop c) = true
    · rw [if_pos hc]
      simp only [Bool.and_eq_true] at hc
      refine ⟨fun q => (by cases q), fun b' hb => ?_⟩
      cases hb
      refine ⟨by simp, hc.2, fun d hd hpd => ?_⟩
      rcases List.mem_append.1 hd with hd | hd
      · exact Int.le_trans (better_le hc.1) (h3 d hd hpd)
      · rw [List.mem_singleton.1 hd]; exact Int.le_refl _
    · rw [if_neg hc]
      refine ⟨fun q => (by cases q), fun b' hb => ?_⟩
      cases hb
      refine ⟨by simp [h1], h2, fun d hd hpd => ?_⟩
      rcases List.mem_append.1 hd with hd | hd
      · exact h3 d hd hpd
      · rw [List.mem_singleton.1 hd] at hpd ⊢
        have : betterB cost c b = false := by
          cases hb : betterB cost c b with
          | false => rfl
          | true => rw [hb, hpd] at hc; exact absurd rfl hc
        exact better_not this
theorem cheap_found (cost : List Int → Int) (prop : List Int → Bool) (cs : List (List Int)) : Found cost prop cs (scanCheap cost prop cs none) := by
  have := scanCheap_found (cost := cost) (prop := prop) cs [] none ⟨fun _ c hc => (by simp at hc), fun b hb => (by cases hb)⟩
  simpa using this
/-- More is asked: not cheaper. -/
theorem cheap_mono {cost : List Int → Int} {p q : List Int → Bool} {cs : List (List Int)} (h : ∀ c ∈ cs, q c = true → p c = true) :
    (scanCheap cost p cs none = none → scanCheap cost q cs none = none) ∧ ∀ a b, scanCheap cost p cs none = some a → scanCheap cost q cs none = some b → p b = true ∧ cost a ≤ cost b := by
  have fp := cheap_found cost p cs
  have fq := cheap_found cost q cs
  refine ⟨fun hn => ?_, fun a b ha hb => ?_⟩
  · cases hq : scanCheap cost q cs none with
    | none => rfl
    | some b =>
      obtain ⟨b1, b2, _⟩ := fq.some_ b hq
      have := fp.none_ hn b b1
      rw [h b b1 b2] at this; cases this
  · obtain ⟨_, _, a3⟩ := fp.some_ a ha
    obtain ⟨b1, b2, _⟩ := fq.some_ b hb
    exact ⟨h b b1 b2, a3 b b1 (h b b1 b2)⟩
/-- The number of sites that are left: with more losses fewer. -/
theorem few_mono {l : List SiteD} {zs chosen : List Int} {a b : Nat} (h : a ≤ b) : fewF l chosen zs b ≤ fewF l chosen zs a := by
  obtain ⟨⟨c, s, hl, e⟩, _⟩ := few_spec l zs chosen a
  rw [e]
  exact (few_spec l zs chosen b).2 c s (by omega)
end Plain
namespace Go.Proofs.Ytbhcaniopdgjkaa
open Go Go.Proofs Go.RowKit
set_option maxHeartbeats 800000
open Plain (SiteD)
def I64 (n : Int) : Prop := -9223372036854775808 ≤ n ∧ n ≤ 9223372036854775807
structure SiteAt (w : World) (b o : Nat) (s : SiteD) : Prop where
  name : ∃ nm : ByteArray, w.cell? ⟨b, o, none⟩ = some (.string nm) ∧ nm.data.toList = s.name ∧ nm.size ≤ maxLen
  zones : ∃ Z c, w.cell? ⟨b, o + 1, none⟩ = some (.slice Z s.zones.length c) ∧ s.zones.length ≤ c ∧ c ≤ maxLen ∧ (Z = none → c = 0) ∧ Sl w .i64 Z s.zones
  cost : w.cell? ⟨b, o + 2, none⟩ = some (.int .i64 s.cost)
  wear : w.cell? ⟨b, o + 3, none⟩ = some (.int .i64 s.wear)
  icost : I64 s.cost
  iwear : I64 s.wear
theorem SiteAt.ext {w w' : World} {b o : Nat} {s : SiteD} (h : SiteAt w b o s) (e : Ext w w') : SiteAt w' b o s := by
  obtain ⟨nm, h1, h2, h3⟩ := h.name
  obtain ⟨Z, c, z1, z2, z3, z4, z5⟩ := h.zones
  exact ⟨⟨nm, e.cell h1, h2, h3⟩, ⟨Z, c, e.cell z1, z2, z3, z4, z5.ext e⟩, e.cell h.cost, e.cell h.wear, h.icost, h.iwear⟩
/-- A slice of sites. -/
def Sites (w : World) (A : Option Addr) (L : List SiteD) : Prop := ∀ i s, L[i]? = some s → ∃ b o, A = some ⟨b, o, none⟩ ∧ SiteAt w b (o + i * 4) s
theorem Sites.ext {w w' : World} {A : Option Addr} {L : List SiteD} (h : Sites w A L) (e : Ext w w') : Sites w' A L := fun i s hs => by
  obtain ⟨b, o, h1, h2⟩ := h i s hs
  exact ⟨b, o, h1, h2.ext e⟩
/-- A new slice of integers. -/
def LRet (w : World) (l : List Int) (e : Ending) (w' : World) : Prop := ∃ v, e = .returned v ∧ w'.ownsRow w.heap.size 3 1 v l.length (l.map (Value.int .i64)) ∧ Ext w w'
theorem info3 : (Try.prog.info? 3).map (fun i => (i.zero, i.size, i.bytes)) = some (some (.int .i64 0), 1, 8) := by kernel_rfl
theorem slc_new (w : World) (xs : List Value) (t : TypeId) : SlC (w.alloc (.cells xs.toArray t)) (some ⟨w.heap.size, 0, none⟩) xs := by
  intro i u hu
  refine ⟨_, rfl, ?_⟩
  have hadd : (⟨w.heap.size, 0, none⟩ : Addr).add i = ⟨w.heap.size, i, none⟩ := by unfold Addr.add; split <;> simp_all
  rw [hadd]
  simp [hu]
theorem own_lt {w : World} {base : Nat} {e : TypeId} {size n : Nat} {v : Value} {xs : List Value} (h : w.ownsRow base e size v n xs) {g : Nat} (hg : v.ownBlock = some g) : base ≤ g ∧ g < w.heap.size := h.lt g hg
theorem own_keep {w w' : World} {base : Nat} {e : TypeId} {size n : Nat} {v : Value} {xs : List Value} (h : w.ownsRow base e size v n xs) (hk : ∀ g, v.ownBlock = some g → w'.heap[g]? = w.heap[g]?) : w'.ownsRow base e size v n xs := by
  refine ⟨h.1, ?_⟩
  rcases h.2 with hn | ⟨g, cap, cur, rfl, hb, hgg, rest⟩
  · exact .inl hn
  · exact .inr ⟨g, cap, cur, rfl, hb, by rw [hk g rfl]; exact hgg, rest⟩
theorem own_ext {w w' : World} {base : Nat} {e : TypeId} {v : Value} {n : Nat} {xs : List Value} (h : w.ownsRow base e 1 v n xs) (x : Ext w w') : w'.ownsRow base e 1 v n xs :=
  own_keep h fun g hg => x.block g (own_lt h hg).2
/-- The row has grown at its end; what lay below the call is as it was. -/
theorem grow_ext {w wx w2 : World} {e : TypeId} {v : Value} {n : Nat} {xs : List Value} (h : Ext w wx) (ho : wx.ownsRow w.heap.size e 1 v n xs) (hg : wx.grownBy w2 v.ownBlock) : Ext w w2 :=
  Below.grown h hg h.size fun _ hk => (own_lt ho hk).1
theorem left_step {L : List SiteD} {ch lost : List Int} {k : Nat} {i : Int} (hi : ch[k]? = some i) : Plain.leftF L (ch.take (k + 1)) lost = Plain.leftF L (ch.take k) lost ++ (if Plain.meetB (Plain.zonesAt L i) lost = true then [] else [i]) := by
  obtain ⟨h1, rfl⟩ := List.getElem?_eq_some_iff.1 hi
  unfold Plain.leftF
  rw [List.take_succ_eq_append_getElem h1, List.filter_append]
  congr 1
  cases h : Plain.meetB (Plain.zonesAt L ch[k]) lost <;> simp [h]
end Go.Proofs.Ytbhcaniopdgjkaa
