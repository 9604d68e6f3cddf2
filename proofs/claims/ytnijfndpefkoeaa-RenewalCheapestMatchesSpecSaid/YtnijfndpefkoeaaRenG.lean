import Derived.Test.YtnijfndpefkoeaaRenC
namespace Ren
/-- The kinds from a on; their numbers shifted. -/
theorem life_drop (ks : List (Int × Int)) (a : Nat) {v : Int} (h : 0 ≤ v) : lifeOf (ks.drop a) v = lifeOf ks (v + a) := by
  unfold lifeOf
  rw [List.getElem?_drop, show (v + (a : Int)).toNat = a + v.toNat by omega]
theorem cost_drop (ks : List (Int × Int)) (a : Nat) {v : Int} (h : 0 ≤ v) : costOf (ks.drop a) v = costOf ks (v + a) := by
  unfold costOf
  rw [List.getElem?_drop, show (v + (a : Int)).toNat = a + v.toNat by omega]
def up (a : Nat) (K : List Int) : List Int := K.map (· + (a : Int))
def dn (a : Nat) (K : List Int) : List Int := K.map (· - (a : Int))
theorem up_dn (a : Nat) (K : List Int) : up a (dn a K) = K := by
  unfold up dn
  rw [List.map_map]
  conv => rhs; rw [← List.map_id K]
  exact List.map_congr_left fun x _ => by show x - (a : Int) + a = x; omega
theorem lives_up {ks : List (Int × Int)} {a : Nat} : ∀ {K : List Int}, (∀ v ∈ K, 0 ≤ v) → lives (ks.drop a) K = lives ks (up a K)
  | [], _ => rfl
  | v :: K, h => by
    show _ = lives ks ((v + (a : Int)) :: up a K)
    rw [lives_cons, lives_cons, life_drop ks a (h v (by simp)), lives_up fun x hx => h x (List.mem_cons_of_mem _ hx)]
theorem costs_up {ks : List (Int × Int)} {a : Nat} : ∀ {K : List Int}, (∀ v ∈ K, 0 ≤ v) → costs (ks.drop a) K = costs ks (up a K)
  | [], _ => rfl
  | v :: K, h => by
    show _ = costs ks ((v + (a : Int)) :: up a K)
    rw [costs_cons, costs_cons, cost_drop ks a (h v (by simp)), costs_up fun x hx => h x (List.mem_cons_of_mem _ hx)]
theorem lex_up (a : Nat) : ∀ K M : List Int, lexB (up a K) (up a M) = lexB K M
  | [], [] => rfl
  | [], _ :: _ => rfl
  | _ :: _, [] => rfl
  | x :: K, y :: M => by
    show lexB ((x + (a : Int)) :: up a K) ((y + (a : Int)) :: up a M) = _
    unfold lexB
    rw [lex_up a K M]
    by_cases e : x = y
    · rw [if_pos e, if_pos (by omega)]
    · rw [if_neg e, if_neg (by omega), decide_eq_decide]; omega
theorem kok_drop {ks : List (Int × Int)} (ok : KOk ks) (a : Nat) : KOk (ks.drop a) := by
  constructor
  · intro v h0 h1
    rw [life_drop ks a h0]
    rw [List.length_drop] at h1
    exact ok.life _ (by omega) (by omega)
  · intro v h0 h1
    rw [cost_drop ks a h0]
    rw [List.length_drop] at h1
    exact ok.cost _ (by omega) (by omega)
theorem pair_up {K : List Int} (a : Nat) (h : K.Pairwise (· ≤ ·)) : (up a K).Pairwise (· ≤ ·) := by
  unfold up
  rw [List.pairwise_map]
  exact h.imp fun q => by omega
theorem pair_dn {K : List Int} (a : Nat) (h : K.Pairwise (· ≤ ·)) : (dn a K).Pairwise (· ≤ ·) := by
  unfold dn
  rw [List.pairwise_map]
  exact h.imp fun q => by omega
/-- The best of the kinds from a on, its numbers shifted, is the best among these kinds. -/
theorem best_up {ks : List (Int × Int)} {a : Nat} (ha : a ≤ ks.length) {y : Int} {x : Choice} (h : IsBest (ks.drop a) 0 y x) : IsBest ks a y (up a x.1, x.2) := by
  have hn : ∀ v ∈ x.1, 0 ≤ v := fun v hv => (h.sol.rng v hv).1
  refine ⟨⟨pair_up a h.sol.sorted, fun v hv => ?_, by rw [← lives_up hn]; exact h.sol.life⟩, by rw [h.cost]; exact costs_up hn, fun K hK => ?_⟩
  · obtain ⟨u, hu, rfl⟩ := List.mem_map.1 hv
    have := h.sol.rng u hu
    rw [List.length_drop] at this
    omega
  · have hd : ∀ v ∈ dn a K, 0 ≤ v := fun v hv => by
      obtain ⟨u, hu, rfl⟩ := List.mem_map.1 hv
      have := hK.rng u hu
      omega
    have hs : Sol (ks.drop a) 0 y (dn a K) := by
      refine ⟨pair_dn a hK.sorted, fun v hv => ⟨hd v hv, ?_⟩, ?_⟩
      · obtain ⟨u, hu, rfl⟩ := List.mem_map.1 hv
        have := hK.rng u hu
        rw [List.length_drop]
        omega
      · rw [lives_up hd, up_dn]; exact hK.life
    have hb := h.best _ hs
    rw [costs_up hd, up_dn] at hb
    unfold Le betB at hb ⊢
    have e1 : (dn a K).length = K.length := by simp [dn]
    have e2 : (up a x.1).length = x.1.length := by simp [up]
    have e3 : lexB K (up a x.1) = lexB (dn a K) x.1 := by
      conv => lhs; rw [← up_dn a K]
      exact lex_up a _ _
    simp only [e1] at hb
    simp only [e2, e3]
    exact hb
/-- The least cost and the least number, from kind a on. -/
def leastC (ks : List (Int × Int)) (a y : Nat) : Int := (bestAt (ks.drop a) y).2
def leastN (ks : List (Int × Int)) (a y : Nat) : Int := ((bestAt (ks.drop a) y).1.length : Int)
theorem best_from {ks : List (Int × Int)} (ok : KOk ks) {a : Nat} (ha : a < ks.length) (y : Nat) : ∃ K, IsBest ks a y (K, leastC ks a y) ∧ (K.length : Int) = leastN ks a y := by
  have h := best_is (kok_drop ok a) (by intro q; have := congrArg List.length q; rw [List.length_drop] at this; simp at this; omega) y
  refine ⟨up a (bestAt (ks.drop a) y).1, best_up (by omega) h, ?_⟩
  unfold leastN up
  rw [List.length_map]
theorem sol_mono {ks : List (Int × Int)} {a b y : Int} {K : List Int} (h : Sol ks a y K) (hb : ∀ v ∈ K, b ≤ v) : Sol ks b y K := ⟨h.sorted, fun v hv => ⟨hb v hv, (h.rng v hv).2⟩, h.life⟩
theorem sol_low {ks : List (Int × Int)} {a b y : Int} {K : List Int} (h : Sol ks b y K) (hb : a ≤ b) : Sol ks a y K := ⟨h.sorted, fun v hv => by have := h.rng v hv; omega, h.life⟩
theorem lives_pos {ks : List (Int × Int)} (ok : KOk ks) : ∀ M : List Int, (∀ v ∈ M, (0 : Int) ≤ v ∧ v < ks.length) → 0 ≤ lives ks M := by
  intro M
  induction M with
  | nil => intro _; simp [lives]
  | cons v M ihM =>
    intro h
    have a1 := ihM fun x hx => h x (by simp [hx])
    have a2 := h v (by simp)
    have a3 := ok.life v a2.1 a2.2
    rw [lives_cons]; omega
def restOf (ks : List (Int × Int)) (a : Nat) (y : Int) : Int := max (y - lifeOf ks a) 0
/-- One more of kind a. -/
theorem sol_cons {ks : List (Int × Int)} {a : Nat} (ha : a < ks.length) {y : Int} {K : List Int} (h : Sol ks a (restOf ks a y) K) : Sol ks a y ((a : Int) :: K) := by
  refine ⟨List.pairwise_cons.2 ⟨fun v hv => (h.rng v hv).1, h.sorted⟩, fun v hv => ?_, ?_⟩
  · rcases List.mem_cons.1 hv with rfl | e
    · omega
    · exact h.rng v e
  · rw [lives_cons]
    have := h.life
    unfold restOf at this
    omega
theorem sol_tail {ks : List (Int × Int)} (ok : KOk ks) {a : Nat} {y : Int} {K : List Int} (h : Sol ks a y ((a : Int) :: K)) : Sol ks a (restOf ks a y) K := by
  have hr : ∀ v ∈ K, (a : Int) ≤ v ∧ v < ks.length := fun v hv => h.rng v (List.mem_cons_of_mem _ hv)
  refine ⟨(List.pairwise_cons.1 h.sorted).2, hr, ?_⟩
  have h1 := h.life
  rw [lives_cons] at h1
  have h2 := lives_pos ok K fun v hv => by have := hr v hv; omega
  unfold restOf
  omega
theorem le_cost {a b : Choice} (h : Le a b) : a.2 ≤ b.2 := h.parts.1
/-- The greedy choice: kind a is taken exactly if the least cost and number remain possible. -/
theorem greedy {ks : List (Int × Int)} (ok : KOk ks) {a : Nat} (ha : a < ks.length) {y : Nat} {x : Choice} (hx : IsBest ks a y x) {r : Nat} (hr : restOf ks a y = (r : Int)) :
    (leastC ks a r + costOf ks a = leastC ks a y ∧ leastN ks a r + 1 = leastN ks a y ∧ ∃ K, x.1 = (a : Int) :: K ∧ IsBest ks a r (K, leastC ks a r)) ∨
    (¬ (leastC ks a r + costOf ks a = leastC ks a y ∧ leastN ks a r + 1 = leastN ks a y) ∧ IsBest ks ((a : Int) + 1) y x) := by
  obtain ⟨Kr, hbr, hnr⟩ := best_from ok ha r
  obtain ⟨Ky, hby, hny⟩ := best_from ok ha y
  have hxe := hx.unique hby
  have hx1 : x.1 = Ky := by rw [hxe]
  have hx2 : x.2 = leastC ks a y := by rw [hxe]
  have hcy := hby.cost
  have hcr := hbr.cost
  simp only at hcy hcr
  -- a and the best of the rest
  have hs : Sol ks a y ((a : Int) :: Kr) := sol_cons ha (by rw [hr]; exact hbr.sol)
  have hle := hby.best _ hs
  have hce : costs ks ((a : Int) :: Kr) = leastC ks a r + costOf ks a := by rw [costs_cons, hcr]; omega
  rw [hce] at hle
  by_cases hhead : ∃ K, Ky = (a : Int) :: K
  · obtain ⟨K, rfl⟩ := hhead
    have hst := sol_tail ok hby.sol
    rw [hr] at hst
    have h1 := hbr.best _ hst
    have hck : leastC ks a y = costOf ks a + costs ks K := by rw [hcy, costs_cons]
    -- x ≤ a :: Kr and Kr ≤ K
    have hlen : (((a : Int) :: K).length : Int) = leastN ks a y := hny
    have p1 := hle.parts
    have p2 := h1.parts
    simp only at p1 p2
    have hc : leastC ks a r + costOf ks a = leastC ks a y := by omega
    have hcc : leastC ks a r = costs ks K := by omega
    have l1 := p1.2 hc.symm
    have l2 := p2.2 hcc
    rw [List.length_cons, List.length_cons] at l1
    rw [List.length_cons] at hlen
    have hn : leastN ks a r + 1 = leastN ks a y := by omega
    refine .inl ⟨hc, hn, K, hx1, ?_⟩
    -- K is the best of the rest
    have hle2 : Le (K, costs ks K) (Kr, leastC ks a r) := by
      have hll : K.length = Kr.length := by omega
      have h3 := hle
      unfold Le betB at h3 ⊢
      have q1 : leastC ks a r + costOf ks a = leastC ks a y := hc
      have q2 : ((a : Int) :: Kr).length = ((a : Int) :: K).length := by rw [List.length_cons, List.length_cons]; omega
      rw [if_pos q1, if_pos q2] at h3
      have q3 : leastC ks a r = costs ks K := hcc
      rw [if_pos q3, if_pos hll.symm]
      have : lexB ((a : Int) :: Kr) ((a : Int) :: K) = lexB Kr K := by
        conv => lhs; unfold lexB
        rw [if_pos rfl]
      rw [this] at h3
      exact h3
    have he : (K, costs ks K) = (Kr, leastC ks a r) := hle2.antisymm h1
    have he1 : K = Kr := congrArg Prod.fst he
    rw [he1]
    exact hbr
  · have hlo : ∀ v ∈ Ky, (a : Int) + 1 ≤ v := by
      intro v hv
      have h1 := (hby.sol.rng v hv).1
      rcases Int.lt_or_le (a : Int) v with q | q
      · omega
      · exfalso
        have hva : v = a := by have h2 : (a : Int) ≤ v := h1; omega
        cases hK : Ky with
        | nil => rw [hK] at hv; simp at hv
        | cons u K =>
          have hsrt := hby.sol.sorted
          simp only at hsrt
          rw [hK] at hsrt hv
          have hu : (a : Int) ≤ u := by have := (hby.sol.rng u (show u ∈ Ky by rw [hK]; simp)).1; exact this
          have : u = a := by
            rcases List.mem_cons.1 hv with e | e
            · omega
            · have := (List.pairwise_cons.1 hsrt).1 v e; omega
          exact hhead ⟨K, by rw [hK, this]⟩
    refine .inr ⟨?_, ?_⟩
    · rintro ⟨hc, hn⟩
      have h3 := hle
      have hll : ((a : Int) :: Kr).length = Ky.length := by rw [List.length_cons]; omega
      unfold Le betB at h3
      simp only at h3
      rw [if_pos hc, if_pos hll] at h3
      cases hK : Ky with
      | nil => rw [hK] at hll; simp at hll
      | cons u K =>
        rw [hK] at h3
        have hu := hlo u (by rw [hK]; simp)
        have : lexB ((a : Int) :: Kr) (u :: K) = true := by
          unfold lexB
          rw [if_neg (by omega)]
          exact decide_eq_true (by omega)
        rw [this] at h3
        cases h3
    · rw [hxe]
      refine ⟨sol_mono hby.sol hlo, hby.cost, fun K hK => hby.best K (sol_low hK (by omega))⟩
/-- What the specification has gathered. -/
structure GrIs (ks : List (Int × Int)) (best : Choice) (a : Nat) (left : Nat) (out : List Int) : Prop where
  rest : ∃ x : Choice, IsBest ks a left x ∧ best.1 = out ++ x.1
theorem gr_zero {ks : List (Int × Int)} (ok : KOk ks) (hk : ks ≠ []) (y : Nat) : GrIs ks (bestAt ks y) 0 y [] := ⟨⟨_, best_is ok hk y, rfl⟩⟩
theorem gr_take {ks : List (Int × Int)} (ok : KOk ks) {best : Choice} {a left r : Nat} {out : List Int} (h : GrIs ks best a left out) (ha : a < ks.length) (hr : restOf ks a left = (r : Int)) (hc : leastC ks a r + costOf ks a = leastC ks a left) (hn : leastN ks a r + 1 = leastN ks a left) :
    GrIs ks best a r (out ++ [(a : Int)]) := by
  obtain ⟨x, hx, hb⟩ := h.rest
  rcases greedy ok ha hx hr with ⟨_, _, K, hK, hbK⟩ | ⟨hno, _⟩
  · exact ⟨⟨_, hbK, by rw [hb, hK, List.append_assoc]; rfl⟩⟩
  · exact absurd ⟨hc, hn⟩ hno
theorem gr_skip {ks : List (Int × Int)} (ok : KOk ks) {best : Choice} {a left r : Nat} {out : List Int} (h : GrIs ks best a left out) (ha : a < ks.length) (hr : restOf ks a left = (r : Int)) (hno : ¬ (leastC ks a r + costOf ks a = leastC ks a left ∧ leastN ks a r + 1 = leastN ks a left)) :
    GrIs ks best (a + 1) left out := by
  obtain ⟨x, hx, hb⟩ := h.rest
  rcases greedy ok ha hx hr with ⟨hc, hn, _⟩ | ⟨_, hbx⟩
  · exact absurd ⟨hc, hn⟩ hno
  · exact ⟨⟨x, by rw [show ((a + 1 : Nat) : Int) = (a : Int) + 1 by omega]; exact hbx, hb⟩⟩
theorem gr_done {ks : List (Int × Int)} (ok : KOk ks) {best : Choice} {a : Nat} {out : List Int} (h : GrIs ks best a 0 out) : best.1 = out := by
  obtain ⟨x, hx, hb⟩ := h.rest
  have := hx.unique (best_zero ok (by omega) (Int.le_refl _))
  rw [hb, this]
  simp
theorem gr_over {ks : List (Int × Int)} {best : Choice} {a left : Nat} {out : List Int} (h : GrIs ks best a left out) (ha : ks.length ≤ a) : best.1 = out := by
  obtain ⟨x, hx, hb⟩ := h.rest
  have : x.1 = [] := by
    cases hK : x.1 with
    | nil => rfl
    | cons u K =>
      have := hx.sol.rng u (by rw [hK]; simp)
      omega
  rw [hb, this]
  simp
/-- The specification's table: at y the best of the candidates. -/
def stepL (ks : List (Int × Int)) (t : List (Int × Int)) (y : Int) (b : Int × Int) (i : Nat) : Int × Int :=
  let f := t[(max (y - lifeOf ks i) 0).toNat]?.getD (0, 0)
  let c := f.1 + costOf ks i
  let n := f.2 + 1
  if b.1 < 0 ∨ c < b.1 ∨ (c = b.1 ∧ n < b.2) then (c, n) else b
def tabL (ks : List (Int × Int)) (y : Nat) : List (Int × Int) := (List.range (y + 1)).map fun k => ((bestAt ks k).2, ((bestAt ks k).1.length : Int))
theorem tab_get (ks : List (Int × Int)) {y k : Nat} (h : k ≤ y) : (tabL ks y)[k]? = some ((bestAt ks k).2, ((bestAt ks k).1.length : Int)) := by
  unfold tabL
  rw [List.getElem?_map, List.getElem?_range (by omega)]
  rfl
theorem bet_pair (a b : Choice) : (a.2 < b.2 ∨ (a.2 = b.2 ∧ a.1.length < b.1.length)) → betB a b = true := by
  intro h
  unfold betB
  by_cases e : a.2 = b.2
  · rw [if_pos e]
    have : a.1.length < b.1.length := by omega
    rw [if_neg (by omega)]
    simpa using this
  · rw [if_neg e]
    have : a.2 < b.2 := by omega
    simpa using this
theorem bestAt_succ (ks : List (Int × Int)) (y : Nat) : bestAt ks (y + 1) = foldC ks (bests ks y) ((y + 1 : Nat) : Int) ks.length := by
  unfold bestAt
  rw [bests, List.getElem?_append_right (by rw [bests_len]; omega), bests_len, Nat.sub_self]; rfl
theorem ins_len2 (i : Int) (l : List Int) : ((ins i l).length : Int) = l.length + 1 := by rw [ins_len]; omega
/-- The specification's scan keeps cost and number of the program's. -/
theorem fold_l {ks : List (Int × Int)} (ok : KOk ks) (y : Nat) : ∀ n, 1 ≤ n → n ≤ ks.length →
    (List.range n).foldl (stepL ks (tabL ks y) ((y + 1 : Nat) : Int)) (-1, 0) = ((foldC ks (bests ks y) ((y + 1 : Nat) : Int) n).2, ((foldC ks (bests ks y) ((y + 1 : Nat) : Int) n).1.length : Int)) ∧ 0 ≤ (foldC ks (bests ks y) ((y + 1 : Nat) : Int) n).2
  | 0, h, _ => by omega
  | n + 1, _, hn => by
    have hlife := ok.life n (by omega) (by omega)
    have hcost := ok.cost n (by omega) (by omega)
    have hidx : (max (((y + 1 : Nat) : Int) - lifeOf ks n) 0).toNat ≤ y := by omega
    have hcand : cand ks (bests ks y) ((y + 1 : Nat) : Int) n = (ins n (bestAt ks (max (((y + 1 : Nat) : Int) - lifeOf ks n) 0).toNat).1, (bestAt ks (max (((y + 1 : Nat) : Int) - lifeOf ks n) 0).toNat).2 + costOf ks n) := by
      unfold cand
      rw [bests_get ks y _ hidx]
    have hnn : 0 ≤ (bestAt ks (max (((y + 1 : Nat) : Int) - lifeOf ks n) 0).toNat).2 := by
      have hne : ks ≠ [] := by intro q; rw [q] at hn; simp at hn
      have hb := best_is ok hne (max (((y + 1 : Nat) : Int) - lifeOf ks n) 0).toNat
      rw [hb.cost]
      have key : ∀ M : List Int, (∀ v ∈ M, (0 : Int) ≤ v ∧ v < ks.length) → 0 ≤ costs ks M := by
        intro M
        induction M with
        | nil => intro _; simp [costs]
        | cons v M ih =>
          intro h
          have a1 := ih fun x hx => h x (by simp [hx])
          have a2 := h v (by simp)
          have a3 := ok.cost v a2.1 a2.2
          rw [costs_cons]; omega
      exact key _ hb.sol.rng
    rw [List.range_succ, List.foldl_append, List.foldl_cons, List.foldl_nil, foldC_succ]
    have hstep : ∀ b : Int × Int, stepL ks (tabL ks y) ((y + 1 : Nat) : Int) b n = if b.1 < 0 ∨ (cand ks (bests ks y) ((y + 1 : Nat) : Int) n).2 < b.1 ∨ ((cand ks (bests ks y) ((y + 1 : Nat) : Int) n).2 = b.1 ∧ ((cand ks (bests ks y) ((y + 1 : Nat) : Int) n).1.length : Int) < b.2) then ((cand ks (bests ks y) ((y + 1 : Nat) : Int) n).2, ((cand ks (bests ks y) ((y + 1 : Nat) : Int) n).1.length : Int)) else b := by
      intro b
      unfold stepL
      rw [tab_get ks hidx, hcand]
      simp only [Option.getD_some, ins_len2]
    rw [hstep]
    have hsC : stepC ks (bests ks y) ((y + 1 : Nat) : Int) (foldC ks (bests ks y) ((y + 1 : Nat) : Int) n) n = if n = 0 ∨ betB (cand ks (bests ks y) ((y + 1 : Nat) : Int) n) (foldC ks (bests ks y) ((y + 1 : Nat) : Int) n) = true then cand ks (bests ks y) ((y + 1 : Nat) : Int) n else foldC ks (bests ks y) ((y + 1 : Nat) : Int) n := rfl
    have hc0 : 0 ≤ (cand ks (bests ks y) ((y + 1 : Nat) : Int) n).2 := by rw [hcand]; simp only; omega
    generalize cand ks (bests ks y) ((y + 1 : Nat) : Int) n = c at *
    rw [hsC]
    rcases Nat.eq_zero_or_pos n with e | hn1
    · subst e
      rw [show (List.range 0).foldl (stepL ks (tabL ks y) ((y + 1 : Nat) : Int)) (-1, 0) = ((-1 : Int), (0 : Int)) from rfl, if_pos (.inl (by decide)), if_pos (.inl rfl)]
      exact ⟨rfl, hc0⟩
    · obtain ⟨ih, i0⟩ := fold_l ok y n hn1 (by omega)
      rw [ih]
      generalize foldC ks (bests ks y) ((y + 1 : Nat) : Int) n = F at *
      simp only
      by_cases hb : c.2 < F.2 ∨ (c.2 = F.2 ∧ (c.1.length : Int) < F.1.length)
      · have hbet := bet_pair c F (by omega)
        rw [if_pos (.inr hb), if_pos (.inr hbet)]
        exact ⟨rfl, hc0⟩
      · have hb1 : ¬ (F.2 < 0 ∨ c.2 < F.2 ∨ (c.2 = F.2 ∧ (c.1.length : Int) < F.1.length)) := by rintro (q | q); omega; exact hb q
        rw [if_neg hb1]
        by_cases hbet : betB c F = true
        · rw [if_pos (.inr hbet)]
          have h1 := (le_of_bet hbet).parts
          have h2 : c.2 = F.2 := by omega
          have h3 := h1.2 h2
          exact ⟨by rw [Prod.mk.injEq]; omega, hc0⟩
        · rw [if_neg (by rintro (q | q); omega; exact hbet q)]
          exact ⟨rfl, i0⟩
/-- A further row of the table. -/
theorem tab_succ {ks : List (Int × Int)} (ok : KOk ks) (hk : ks ≠ []) (y : Nat) : tabL ks (y + 1) = tabL ks y ++ [(List.range ks.length).foldl (stepL ks (tabL ks y) ((y + 1 : Nat) : Int)) (-1, 0)] := by
  have hlen : 1 ≤ ks.length := by cases ks with | nil => exact absurd rfl hk | cons _ _ => simp
  rw [(fold_l ok y ks.length hlen (Nat.le_refl _)).1, ← bestAt_succ]
  unfold tabL
  rw [List.range_succ, List.map_append]
  rfl
end Ren
