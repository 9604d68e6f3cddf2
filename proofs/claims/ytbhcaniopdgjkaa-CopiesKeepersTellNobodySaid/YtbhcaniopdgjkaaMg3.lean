import Derived.Test.YtbhcaniopdgjkaaMg2
namespace Plain
/-- A site, as plain data. -/
structure SiteD where
  name : List UInt8
  zones : List Int
  cost : Int
  wear : Int
/-- The code of a list that should be rising below n; p: the element ahead. -/
def risingGo (n : Int) : Option Int → List Int → Int
  | _, [] => 0
  | p, x :: r => if x < 0 ∨ n ≤ x then 4 else if p.elim false (fun y => decide (x ≤ y)) = true then 11 else risingGo n (some x) r
def risingC (l : List Int) (n : Int) : Int := risingGo n none l
theorem risingGo_ok {n : Int} : ∀ {l : List Int} {p : Option Int}, risingGo n p l = 0 → l.Pairwise (· < ·) ∧ (∀ x ∈ l, 0 ≤ x ∧ x < n) ∧ (∀ y, p = some y → ∀ x ∈ l, y < x)
  | [], p, _ => by simp
  | x :: r, p, h => by
    rw [risingGo] at h
    by_cases h1 : x < 0 ∨ n ≤ x
    · rw [if_pos h1] at h; cases h
    rw [if_neg h1] at h
    by_cases h2 : p.elim false (fun y => decide (x ≤ y)) = true
    · rw [if_pos h2] at h; cases h
    rw [if_neg h2] at h
    obtain ⟨i1, i2, i3⟩ := risingGo_ok h
    refine ⟨List.pairwise_cons.2 ⟨fun y hy => i3 x rfl y hy, i1⟩, fun y hy => ?_, fun y hp z hz => ?_⟩
    · rcases List.mem_cons.1 hy with rfl | hy
      · omega
      · exact i2 y hy
    · subst hp
      simp only [Option.elim, decide_eq_true_eq] at h2
      rcases List.mem_cons.1 hz with rfl | hz
      · omega
      · have := i3 x rfl z hz; omega
theorem risingGo_of {n : Int} : ∀ {l : List Int} {p : Option Int}, l.Pairwise (· < ·) → (∀ x ∈ l, 0 ≤ x ∧ x < n) → (∀ y, p = some y → ∀ x ∈ l, y < x) → risingGo n p l = 0
  | [], p, _, _, _ => rfl
  | x :: r, p, h1, h2, h3 => by
    have hx := h2 x (by simp)
    rw [risingGo, if_neg (by omega), if_neg]
    · exact risingGo_of (List.pairwise_cons.1 h1).2 (fun y hy => h2 y (by simp [hy])) (fun y hy z hz => by cases hy; exact (List.pairwise_cons.1 h1).1 z hz)
    · cases p with
      | none => simp
      | some y => have := h3 y rfl x (by simp); simp; omega
theorem risingC_iff {l : List Int} {n : Int} : risingC l n = 0 ↔ l.Pairwise (· < ·) ∧ ∀ x ∈ l, 0 ≤ x ∧ x < n :=
  ⟨fun h => ⟨(risingGo_ok h).1, (risingGo_ok h).2.1⟩, fun h => risingGo_of h.1 h.2 (fun _ hy => by cases hy)⟩
def okChar (c : UInt8) : Bool := (97 ≤ c && c ≤ 122) || (48 ≤ c && c ≤ 57) || c == 45 || c == 46 || c == 95
def nameB (l : List UInt8) : Bool := decide (1 ≤ l.length) && decide (l.length ≤ 32) && (match l with | c :: _ => 97 ≤ c && c ≤ 122 | [] => false) && l.all okChar
/-- The code of a site behind others. -/
def siteC (before : List SiteD) (s : SiteD) : Int :=
  if nameB s.name = false then 7
  else if risingC s.zones 12 ≠ 0 then risingC s.zones 12
  else if s.cost < 0 ∨ 1000000 < s.cost ∨ s.wear < 0 ∨ 90 < s.wear then 4
  else if (before.any fun t => t.name == s.name) = true then 8
  else 0
def sitesGo : List SiteD → List SiteD → Int × Int
  | _, [] => (0, 0)
  | before, s :: r => if siteC before s ≠ 0 then (siteC before s, before.length) else sitesGo (before ++ [s]) r
def sitesF (l : List SiteD) : Int × Int := if 10 < l.length then (2, -1) else sitesGo [] l
def chosenF (l : List SiteD) (chosen : List Int) : Int × Int := if sitesF l = (0, 0) then (if risingC chosen l.length ≠ 0 then (risingC chosen l.length, -2) else (0, 0)) else sitesF l
def meetB (a b : List Int) : Bool := a.any fun x => b.contains x
def zonesAt (l : List SiteD) (i : Int) : List Int := (l[i.toNat]?.map SiteD.zones).getD []
def leftF (l : List SiteD) (chosen lost : List Int) : List Int := chosen.filter fun i => !meetB (zonesAt l i) lost
def zonesF (l : List SiteD) : List Int := ((List.range 12).map Int.ofNat).filter fun z => l.any fun s => s.zones.contains z
def mergedF (a b : List Int) (most : Nat) : List Int := ((List.range most).map Int.ofNat).filter fun n => a.contains n || b.contains n
theorem range_sorted (n : Nat) : ((List.range n).map Int.ofNat).Pairwise (· < ·) := by
  rw [List.pairwise_map]
  exact List.pairwise_lt_range.imp fun h => by simpa using h
theorem mem_range_int {n : Nat} {z : Int} : z ∈ (List.range n).map Int.ofNat ↔ 0 ≤ z ∧ z < n := by
  simp only [List.mem_map, List.mem_range]
  constructor
  · rintro ⟨k, hk, rfl⟩; simp; exact hk
  · rintro ⟨h1, h2⟩; exact ⟨z.toNat, by omega, by simp; omega⟩
theorem merged_rising (a b : List Int) (n : Nat) : risingC (mergedF a b n) n = 0 := by
  rw [risingC_iff]
  refine ⟨(range_sorted n).sublist List.filter_sublist, fun x hx => ?_⟩
  exact mem_range_int.1 (List.mem_filter.1 hx).1
theorem meet_merged {z a b : List Int} {n : Nat} (ha : ∀ x ∈ a, 0 ≤ x ∧ x < n) (hb : ∀ x ∈ b, 0 ≤ x ∧ x < n) : meetB z (mergedF a b n) = (meetB z a || meetB z b) := by
  rw [Bool.eq_iff_iff]
  simp only [meetB, List.any_eq_true, List.contains_iff_mem, Bool.or_eq_true]
  constructor
  · rintro ⟨x, hx, hm⟩
    have := (List.mem_filter.1 hm).2
    simp only [Bool.or_eq_true, List.contains_iff_mem] at this
    rcases this with h | h
    · exact .inl ⟨x, hx, h⟩
    · exact .inr ⟨x, hx, h⟩
  · rintro (⟨x, hx, hm⟩ | ⟨x, hx, hm⟩)
    · refine ⟨x, hx, List.mem_filter.2 ⟨mem_range_int.2 (ha x hm), ?_⟩⟩
      simp [hm]
    · refine ⟨x, hx, List.mem_filter.2 ⟨mem_range_int.2 (hb x hm), ?_⟩⟩
      simp [hm]
/-- The law on losses that add up. -/
theorem left_merged (l : List SiteD) (chosen lost more : List Int) (h1 : risingC lost 12 = 0) (h2 : risingC more 12 = 0) : leftF l (leftF l chosen lost) more = leftF l chosen (mergedF lost more 12) := by
  unfold leftF
  rw [List.filter_filter]
  congr 1
  funext i
  rw [meet_merged (n := 12) (risingC_iff.1 h1).2 (risingC_iff.1 h2).2]
  cases meetB (zonesAt l i) lost <;> cases meetB (zonesAt l i) more <;> rfl
theorem left_rising {l : List SiteD} {chosen lost : List Int} {n : Int} (h : risingC chosen n = 0) : risingC (leftF l chosen lost) n = 0 := by
  rw [risingC_iff] at h ⊢
  exact ⟨h.1.sublist List.filter_sublist, fun x hx => h.2 x (List.mem_filter.1 hx).1⟩
theorem zones_sorted (l : List SiteD) : (zonesF l).Pairwise (· < ·) := (range_sorted 12).sublist List.filter_sublist
theorem mem_zones {l : List SiteD} {z : Int} : z ∈ zonesF l ↔ (0 ≤ z ∧ z < 12) ∧ ∃ s ∈ l, z ∈ s.zones := by
  simp only [zonesF, List.mem_filter, mem_range_int, List.any_eq_true, List.contains_iff_mem]
  rfl
theorem left_mono {l : List SiteD} {chosen a b : List Int} (h : ∀ i ∈ chosen, meetB (zonesAt l i) a = true → meetB (zonesAt l i) b = true) : (leftF l chosen b).length ≤ (leftF l chosen a).length := by
  unfold leftF
  rw [← List.countP_eq_length_filter, ← List.countP_eq_length_filter]
  refine List.countP_mono_left fun i hi hb => ?_
  cases ha : meetB (zonesAt l i) a with
  | false => rfl
  | true => rw [h i hi ha] at hb; cases hb
/-- Every sublist of at most k elements lies in one of k elements, if there are so many. -/
theorem extend_sub : ∀ (l c : List Int) (k : Nat), c.Sublist l → c.length ≤ k → k ≤ l.length → ∃ d, c.Sublist d ∧ d.Sublist l ∧ d.length = k
  | [], c, k, h, _, h3 => by
    simp at h3
    exact ⟨[], by rw [List.sublist_nil.1 h]; exact List.Sublist.slnil, List.Sublist.slnil, by simp [h3]⟩
  | x :: r, c, k, h, h2, h3 => by
    cases h with
    | cons _ h =>
      by_cases hk : k ≤ r.length
      · obtain ⟨d, d1, d2, d3⟩ := extend_sub r c k h h2 hk
        exact ⟨d, d1, d2.cons x, d3⟩
      · have : k = (x :: r).length := by simp at h3 ⊢; omega
        exact ⟨x :: r, h.cons x, List.Sublist.refl _, this.symm⟩
    | cons_cons _ h =>
      rename_i c'
      cases k with
      | zero => simp at h2
      | succ k =>
        obtain ⟨d, d1, d2, d3⟩ := extend_sub r c' k h (by simpa using h2) (by simpa using h3)
        exact ⟨x :: d, d1.cons_cons x, d2.cons_cons x, by simp [d3]⟩
theorem nodup_length : ∀ {a b : List Int}, a.Nodup → (∀ x ∈ a, x ∈ b) → a.length ≤ b.length
  | [], _, _, _ => Nat.zero_le _
  | x :: r, b, h, hs => by
    obtain ⟨h1, h2⟩ := List.nodup_cons.1 h
    have hx : x ∈ b := hs x (by simp)
    have := nodup_length (b := b.erase x) h2 fun y hy => (List.mem_erase_of_ne (fun e : y = x => h1 (by rw [← e]; exact hy))).2 (hs y (by simp [hy]))
    rw [List.length_erase_of_mem hx] at this
    have hpos : 0 < b.length := List.length_pos_of_mem hx
    simp only [List.length_cons]
    omega
/-- The worst of the combinations bounds every loss. -/
theorem worst_bound {l : List SiteD} {chosen lost b : List Int} {count : Nat} (hv : ∀ i ∈ chosen, ∀ z ∈ zonesAt l i, z ∈ zonesF l) (hc : lost.length ≤ count)
    (hb : Best (fun c => (leftF l chosen c).length) (combs (min count (zonesF l).length) (zonesF l)) b) : (leftF l chosen b).length ≤ (leftF l chosen lost).length := by
  have hsub : ((zonesF l).filter fun z => lost.contains z).length ≤ min count (zonesF l).length := by
    have h1 : ((zonesF l).filter fun z => lost.contains z).length ≤ (zonesF l).length := List.length_filter_le _ _
    have hnd : ((zonesF l).filter fun z => lost.contains z).Nodup := ((zones_sorted l).sublist List.filter_sublist).imp fun h => by omega
    have h2 : ((zonesF l).filter fun z => lost.contains z).length ≤ lost.length :=
      nodup_length hnd fun z hz => by simpa using (List.mem_filter.1 hz).2
    omega
  obtain ⟨d, d1, d2, d3⟩ := extend_sub (zonesF l) _ _ (List.filter_sublist (p := fun z => lost.contains z)) hsub (Nat.min_le_right _ _)
  have hd : d ∈ combs (min count (zonesF l).length) (zonesF l) := (mem_combs _ _ _).2 ⟨d2, d3⟩
  have hle : (leftF l chosen b).length ≤ (leftF l chosen d).length := by
    rcases hb.2 d hd with h | ⟨h, _⟩ <;> simp only at h <;> omega
  refine Nat.le_trans hle (left_mono fun i hi hm => ?_)
  simp only [meetB, List.any_eq_true, List.contains_iff_mem] at hm ⊢
  obtain ⟨z, hz, hzl⟩ := hm
  exact ⟨z, hz, d1.subset (List.mem_filter.2 ⟨hv i hi z hz, by simpa using hzl⟩)⟩
end Plain
namespace Go.Proofs.Ytbhcaniopdgjkaa
open Go Go.Proofs Go.RowKit
set_option maxHeartbeats 800000
theorem ret_int {k : IntKind} {a b : Int} (h : a = b) : Ending.returned (.int k a) = .returned (.int k b) := by rw [h]
/-- What is still to be looked at decides. -/
def riseTo (l : List Int) (n : Int) (k : Nat) : Prop := Plain.risingC l n = Plain.risingGo n (if k = 0 then none else l[k - 1]?) (l.drop k)
theorem rise0 (l : List Int) (n : Int) : riseTo l n 0 := rfl
theorem rise_end {l : List Int} {n : Int} {k : Nat} (h : riseTo l n k) (hk : l.length ≤ k) : 0 = Plain.risingC l n := by
  rw [h, List.drop_of_length_le hk]; rfl
theorem rise_range {l : List Int} {n x : Int} {k : Nat} (h : riseTo l n k) (hx : l[k]? = some x) (hb : x < 0 ∨ n ≤ x) : 4 = Plain.risingC l n := by
  obtain ⟨h1, rfl⟩ := List.getElem?_eq_some_iff.1 hx
  rw [h, List.drop_eq_getElem_cons h1, Plain.risingGo, if_pos hb]
theorem rise_order {l : List Int} {n x y : Int} {k : Nat} (h : riseTo l n k) (hx : l[k]? = some x) (hb : ¬ (x < 0 ∨ n ≤ x)) (hk : 0 < k) (hy : l[k - 1]? = some y) (hxy : x ≤ y) : 11 = Plain.risingC l n := by
  obtain ⟨h1, rfl⟩ := List.getElem?_eq_some_iff.1 hx
  have e : (if k = 0 then none else l[k - 1]?) = some y := by rw [if_neg (by omega), hy]
  rw [h, List.drop_eq_getElem_cons h1, e, Plain.risingGo, if_neg hb, if_pos (by simpa using hxy)]
theorem rise_next {l : List Int} {n x : Int} {k : Nat} (h : riseTo l n k) (hx : l[k]? = some x) (hb : ¬ (x < 0 ∨ n ≤ x)) (ho : k = 0 ∨ ∃ y, l[k - 1]? = some y ∧ ¬ x ≤ y) : riseTo l n (k + 1) := by
  unfold riseTo
  obtain ⟨h1, rfl⟩ := List.getElem?_eq_some_iff.1 hx
  rw [h, List.drop_eq_getElem_cons h1, Plain.risingGo, if_neg hb, if_neg, if_neg (by omega), Nat.add_sub_cancel, List.getElem?_eq_getElem h1]
  rcases ho with rfl | ⟨y, hy, hxy⟩
  · simp
  · by_cases h0 : k = 0
    · simp [h0]
    · rw [if_neg h0, hy]; simpa using hxy
theorem Rising_c (A : Option Addr) (l : List Int) (c : Nat) (n : Int) (w : World) (hl : l.length ≤ maxLen) (h1 : Sl w .i64 A l) :
    Calls Try.prog 46 #[.slice A l.length c, .int .i64 n] w fun e w' => e = .returned (.int .i64 (Plain.risingC l n)) ∧ w = w' := by
  unfold maxLen at hl
  obtain ⟨q, hq⟩ : ∃ q, q = l.length := ⟨_, rfl⟩
  rw [← hq] at hl ⊢
  have HQ := Lib.hid hq
  clear hq
  obtain ⟨r, hr⟩ : ∃ r, Plain.risingC l n = r := ⟨_, rfl⟩
  rw [hr]
  have HRR := Lib.hid hr
  clear hr
  go_enter Try.func46, Try.ntmps46
  go_wp2
  go_loop [9] (fun i => ∃ k : Nat, k ≤ q ∧ i = .int .i64 k ∧ riseTo l n k) (fun i => q - (intOf i).toNat)
  case atStart => exact ⟨0, Nat.zero_le _, rfl, rise0 l n⟩
  case round =>
    obtain ⟨k, hk, rfl, hr⟩ := hrel
    have HR := Lib.hid hr
    clear hr
    by_cases hlt : k < q
    · have hkl : k < l.length := by rw [← HQ.out]; exact hlt
      obtain ⟨b, o, x, rfl, hx, ha⟩ := h1.at2 hkl
      by_cases hb : x < 0 ∨ n ≤ x
      · have HC := Lib.hid ((rise_range HR.out hx.out hb).trans HRR.out)
        clear hkl
        rcases hb with hb | hb
        · go_wp2
          go_ret
          exact ⟨ret_int HC.out, rfl⟩
        · by_cases hb0 : x < 0
          · go_wp2
            go_ret
            exact ⟨ret_int HC.out, rfl⟩
          · go_wp2
            go_ret
            exact ⟨ret_int HC.out, rfl⟩
      · have hb1 : ¬ x < 0 := by omega
        have hb2 : ¬ n ≤ x := by omega
        by_cases h0 : k = 0
        · have HN := Lib.hid (rise_next HR.out hx.out hb (.inl h0))
          have e4 : decide ((0 : Int) < (k : Int)) = false := by simp; omega
          have e5 : ¬ 0 < k := by omega
          clear hkl hb h0
          go_wp2
          go_round
          case rel => exact ⟨k + 1, by omega, by go_num, HN.out⟩
          case measure => simp [intOf]; omega
        · obtain ⟨b', o', y, hA, hy, hay⟩ := h1.at2 (show k - 1 < l.length by omega)
          cases hA
          have e1 : ((k : Int) - 1).toNat = k - 1 := by omega
          have e2 : 0 ≤ (k : Int) - 1 := by omega
          have e3 : (k : Int) - 1 < q := by omega
          have e4 : decide ((0 : Int) < (k : Int)) = true := by simp; omega
          have e5 : 0 < k := by omega
          by_cases hxy : x ≤ y
          · have HC := Lib.hid ((rise_order HR.out hx.out hb (by omega) hy.out hxy).trans HRR.out)
            clear hkl hb h0
            go_wp2
            go_ret
            exact ⟨ret_int HC.out, rfl⟩
          · have HN := Lib.hid (rise_next HR.out hx.out hb (.inr ⟨y, hy.out, hxy⟩))
            clear hkl hb h0
            go_wp2
            go_round
            case rel => exact ⟨k + 1, by omega, by go_num, HN.out⟩
            case measure => simp [intOf]; omega
    · have HC := Lib.hid ((rise_end HR.out (by rw [← HQ.out]; omega)).trans HRR.out)
      go_wp2
      go_ret
      exact ⟨ret_int HC.out, rfl⟩
end Go.Proofs.Ytbhcaniopdgjkaa
namespace Go.Proofs.Ytbhcaniopdgjkaa
open Go Go.Proofs Go.RowKit
set_option maxHeartbeats 800000
theorem inB_true {n lo hi : Int} (h1 : lo ≤ n) (h2 : n ≤ hi) : inB n lo hi = true := by unfold inB; simp; omega
theorem inB_false {n lo hi : Int} (h : ¬ (lo ≤ n ∧ n ≤ hi)) : inB n lo hi = false := by unfold inB; simp; omega
theorem RisingCode_c (A : Option Addr) (l : List Int) (c : Nat) (n : Int) (w : World) (hl : l.length ≤ maxLen) (hn : -1000000 ≤ n ∧ n ≤ 9223372036854775807) (h1 : Sl w .i64 A l) :
    Calls Try.prog 19 #[.slice A l.length c, .int .i64 n] w fun e w' => e = .returned (.int .i64 (Plain.risingC l n)) ∧ ∃ m, w' = w.drewN m := by
  unfold maxLen at hl
  obtain ⟨n0, n1⟩ := hn
  obtain ⟨q, hq⟩ : ∃ q, q = l.length := ⟨_, rfl⟩
  rw [← hq] at hl ⊢
  have HQ := Lib.hid hq
  clear hq
  obtain ⟨r, hr⟩ : ∃ r, Plain.risingC l n = r := ⟨_, rfl⟩
  rw [hr]
  have HRR := Lib.hid hr
  clear hr
  go_enter Try.func19, Try.ntmps19
  go_wp2
  go_loopw [5] (fun i wr => ∃ k m : Nat, k ≤ q ∧ i = .int .i64 k ∧ riseTo l n k ∧ wr = w.drewN m) (fun i _ => q - (intOf i).toNat)
  case atStart => exact ⟨0, 0, Nat.zero_le _, rfl, rise0 l n, rfl⟩
  case round =>
    obtain ⟨k, m, hk, rfl, hr, rfl⟩ := hrel
    have HR := Lib.hid hr
    clear hr
    by_cases hlt : k < q
    · have hkl : k < l.length := by rw [← HQ.out]; exact hlt
      obtain ⟨b, o, x, rfl, hx, ha⟩ := h1.at2 hkl
      by_cases hb : x < 0 ∨ n ≤ x
      · have HC := Lib.hid ((rise_range HR.out hx.out hb).trans HRR.out)
        have hin : inB x 0 (n - 1) = false := inB_false (by omega)
        clear hkl hb
        go_wp2_with (go_at_call 29; refine (In_c _ _ _ _).mono ?_; rintro e w' ⟨rfl, rfl⟩)
        go_ret
        exact ⟨ret_int HC.out, _, rfl⟩
      · have hin : inB x 0 (n - 1) = true := inB_true (by omega) (by omega)
        by_cases h0 : k = 0
        · have HN := Lib.hid (rise_next HR.out hx.out hb (.inl h0))
          have e4 : decide ((0 : Int) < (k : Int)) = false := by simp; omega
          have e5 : ¬ 0 < k := by omega
          have e6 : decide (0 < k) = false := by simp; omega
          clear hkl hb h0
          go_wp2_with (go_at_call 29; refine (In_c _ _ _ _).mono ?_; rintro e w' ⟨rfl, rfl⟩)
          go_quiet (fail)
          go_wp2
          refine ⟨⟨k + 1, _, by omega, by go_num, HN.out, rfl⟩, by simp [intOf]; omega⟩
        · obtain ⟨b', o', y, hA, hy, hay⟩ := h1.at2 (show k - 1 < l.length by omega)
          cases hA
          have e1 : ((k : Int) - 1).toNat = k - 1 := by omega
          have e2 : 0 ≤ (k : Int) - 1 := by omega
          have e3 : (k : Int) - 1 < q := by omega
          have e4 : decide ((0 : Int) < (k : Int)) = true := by simp; omega
          have e5 : 0 < k := by omega
          have e6 : decide (0 < k) = true := by simp; omega
          have e7 : IntKind.i64.wrap ((k : Int) - 1) = (k : Int) - 1 := IntWalk.i64_in _ (by omega)
          by_cases hxy : x ≤ y
          · have HC := Lib.hid ((rise_order HR.out hx.out hb (by omega) hy.out hxy).trans HRR.out)
            have e8 : decide (x ≤ y) = true := by simpa using hxy
            clear hkl hb h0
            go_wp2_with (go_at_call 29; refine (In_c _ _ _ _).mono ?_; rintro e w' ⟨rfl, rfl⟩)
            go_quiet (fail)
            go_wp2
            go_ret
            exact ⟨ret_int HC.out, _, World.drewN_drewN _ _ _⟩
          · have HN := Lib.hid (rise_next HR.out hx.out hb (.inr ⟨y, hy.out, hxy⟩))
            have e8 : decide (x ≤ y) = false := by simpa using hxy
            clear hkl hb h0
            go_wp2_with (go_at_call 29; refine (In_c _ _ _ _).mono ?_; rintro e w' ⟨rfl, rfl⟩)
            go_quiet (fail)
            clear e1 e7
            go_wp2
            refine ⟨⟨k + 1, _, by omega, by go_num, HN.out, rfl⟩, by simp [intOf]; omega⟩
    · have HC := Lib.hid ((rise_end HR.out (by rw [← HQ.out]; omega)).trans HRR.out)
      go_wp2
      go_ret
      exact ⟨ret_int HC.out, _, rfl⟩
end Go.Proofs.Ytbhcaniopdgjkaa
