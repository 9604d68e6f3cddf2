import Derived.Test.YtbhcaniopdgjkaaMg3
namespace Go.Proofs.Ytbhcaniopdgjkaa
open Go Go.Proofs Go.RowKit
set_option maxHeartbeats 800000
/-- A place, or a number below zero. -/
def IdxRet (b : Bool) (w : World) (e : Ending) (w' : World) : Prop := ∃ r : Int, e = .returned (.int .i64 r) ∧ decide (0 ≤ r) = b ∧ w = w'
theorem Index_c (A : Option Addr) (l : List Int) (c : Nat) (n : Int) (w : World) (hl : l.length ≤ maxLen) (h1 : Sl w .i64 A l) :
    Calls Try.prog 93 #[.slice A l.length c, .int .i64 n] w (IdxRet (hasB l n) w) := by
  unfold maxLen at hl
  obtain ⟨q, hq⟩ : ∃ q, q = l.length := ⟨_, rfl⟩
  rw [← hq] at hl ⊢
  have HQ := Lib.hid hq
  clear hq
  go_enter Try.func93, Try.ntmps93
  go_wp2
  go_loop [8] (fun i => ∃ k : Nat, k ≤ q ∧ i = .int .i64 k ∧ n ∉ l.take k) (fun i => q - (intOf i).toNat)
  case atStart => exact ⟨0, Nat.zero_le _, rfl, by simp⟩
  case round =>
    obtain ⟨k, hk, rfl, hr⟩ := hrel
    have HR := Lib.hid hr
    clear hr
    by_cases hlt : k < q
    · have hkl : k < l.length := by rw [← HQ.out]; exact hlt
      obtain ⟨b, o, x, rfl, hx, ha⟩ := h1.at2 hkl
      clear hkl
      by_cases hne : x = n
      · have HC : Hid (hasB l n = true) := by
          show l.contains n = true
          rw [List.contains_iff_mem, ← hne]; exact List.mem_of_getElem? hx.out
        subst hne
        go_wp2
        go_ret
        exact ⟨k, rfl, by rw [HC.out]; simp, rfl⟩
      · have hb : (n == x) = false := by simpa using fun e => hne e.symm
        go_wp2
        go_round
        case rel => exact ⟨k + 1, by omega, by go_num, take_has HR.out hx.out hne⟩
        case measure => simp [intOf]; omega
    · have HC : Hid (hasB l n = false) := by
        show l.contains n = false
        have := HR.out
        rw [List.take_of_length_le (by rw [← HQ.out]; omega)] at this
        simpa using this
      go_wp2
      go_ret
      exact ⟨-1, rfl, by rw [HC.out]; rfl, rfl⟩
theorem Contains_c (A : Option Addr) (l : List Int) (c : Nat) (n : Int) (w : World) (hl : l.length ≤ maxLen) (h1 : Sl w .i64 A l) :
    Calls Try.prog 79 #[.slice A l.length c, .int .i64 n] w fun e w' => e = .returned (.bool (hasB l n)) ∧ w = w' := by
  have HC := Lib.hid (Index_c A l c n w hl h1)
  go_enter Try.func79, Try.ntmps79
  go_wp2_with (go_at_call 93; refine HC.out.mono ?_; rintro e w' ⟨r, rfl, hr, rfl⟩)
  go_ret
  exact ⟨rfl, rfl⟩
theorem meet1_c (x : Int) (B : Nat) (D : Option Addr) (m : List Int) (d : Nat) (w : World) (hm : m.length ≤ maxLen) (h2 : Sl w .i64 D m) (hc : w.cell? ⟨B, 0, none⟩ = some (.slice D m.length d)) :
    Calls Try.prog 84 #[.int .i64 x, .pointer (some ⟨B, 0, none⟩)] w fun e w' => e = .returned (.bool (hasB m x)) ∧ w = w' := by
  have HC := Lib.hid (Contains_c D m d x w hm h2)
  go_enter Try.func84, Try.ntmps84
  go_wp2_with (go_at_call 79; refine HC.out.mono ?_; rintro e w' ⟨rfl, rfl⟩)
  go_ret
  exact ⟨rfl, rfl⟩
theorem IndexFunc_c (A : Option Addr) (l : List Int) (c : Nat) (B : Nat) (p : Int → Bool) (w : World) (hl : l.length ≤ maxLen) (h1 : Sl w .i64 A l)
    (hp : ∀ x, Calls Try.prog 84 #[.int .i64 x, .pointer (some ⟨B, 0, none⟩)] w fun e w' => e = .returned (.bool (p x)) ∧ w = w') :
    Calls Try.prog 92 #[.slice A l.length c, .func (.func 84) #[] #[.pointer (some ⟨B, 0, none⟩)]] w (IdxRet (l.any p) w) := by
  unfold maxLen at hl
  obtain ⟨q, hq⟩ : ∃ q, q = l.length := ⟨_, rfl⟩
  rw [← hq] at hl ⊢
  have HQ := Lib.hid hq
  have HP := Lib.hid hp
  obtain ⟨r, hr⟩ : ∃ r, l.any p = r := ⟨_, rfl⟩
  rw [hr]
  have HRR := Lib.hid hr
  clear hq hp hr
  go_enter Try.func92, Try.ntmps92
  go_wp2
  go_loop [8] (fun i => ∃ k : Nat, k ≤ q ∧ i = .int .i64 k ∧ noneTo p l k) (fun i => q - (intOf i).toNat)
  case atStart => exact ⟨0, Nat.zero_le _, rfl, by simp [noneTo]⟩
  case round =>
    obtain ⟨k, hk, rfl, hr⟩ := hrel
    have HR := Lib.hid hr
    clear hr
    by_cases hlt : k < q
    · have hkl : k < l.length := by rw [← HQ.out]; exact hlt
      obtain ⟨b, o, x, rfl, hx, ha⟩ := h1.at2 hkl
      clear hkl
      cases hb : p x with
      | true =>
        have HC := Lib.hid ((any_here hx.out hb).symm.trans HRR.out)
        go_wp2_with (go_at_call 84; refine (HP.out _).mono ?_; rintro e w' ⟨rfl, rfl⟩)
        go_ret
        exact ⟨k, rfl, by rw [← HC.out]; simp, rfl⟩
      | false =>
        go_wp2_with (go_at_call 84; refine (HP.out _).mono ?_; rintro e w' ⟨rfl, rfl⟩)
        go_round
        case rel => exact ⟨k + 1, by omega, by go_num, any_take HR.out hx.out hb⟩
        case measure => simp [intOf]; omega
    · have HC := Lib.hid ((any_full HR.out (by rw [← HQ.out]; omega)).symm.trans HRR.out)
      go_wp2
      go_ret
      exact ⟨-1, rfl, by rw [← HC.out]; rfl, rfl⟩
end Go.Proofs.Ytbhcaniopdgjkaa
namespace Go.Proofs.Ytbhcaniopdgjkaa
open Go Go.Proofs Go.RowKit
set_option maxHeartbeats 800000
theorem ContainsFunc_c (A : Option Addr) (l : List Int) (c : Nat) (B : Nat) (p : Int → Bool) (w : World) (hl : l.length ≤ maxLen) (h1 : Sl w .i64 A l)
    (hp : ∀ x, Calls Try.prog 84 #[.int .i64 x, .pointer (some ⟨B, 0, none⟩)] w fun e w' => e = .returned (.bool (p x)) ∧ w = w') :
    Calls Try.prog 83 #[.slice A l.length c, .func (.func 84) #[] #[.pointer (some ⟨B, 0, none⟩)]] w fun e w' => e = .returned (.bool (l.any p)) ∧ w = w' := by
  have HC := Lib.hid (IndexFunc_c A l c B p w hl h1 hp)
  clear hp
  obtain ⟨r, hr⟩ : ∃ r, l.any p = r := ⟨_, rfl⟩
  rw [hr] at HC ⊢
  clear hr
  go_enter Try.func83, Try.ntmps83
  go_wp2_with (go_at_call 92; refine HC.out.mono ?_; rintro e w' ⟨i, rfl, hi, rfl⟩)
  go_ret
  exact ⟨rfl, rfl⟩
def BRet (w : World) (b : Bool) (e : Ending) (w' : World) : Prop := e = .returned (.bool b) ∧ Ext w w'
theorem meet_c (A D : Option Addr) (l m : List Int) (c d : Nat) (w : World) (hl : l.length ≤ maxLen) (hm : m.length ≤ maxLen) (h1 : Sl w .i64 A l) (h2 : Sl w .i64 D m) :
    Calls Try.prog 51 #[.slice A l.length c, .slice D m.length d] w (BRet w (meetsB l m)) := by
  have hx : Ext w (w.alloc (.cells #[.slice D m.length d] 23)) := (Ext.refl w).alloc _
  have hcell : (w.alloc (.cells #[.slice D m.length d] 23)).cell? ⟨w.heap.size, 0, none⟩ = some (.slice D m.length d) := by simp
  have HC := Lib.hid (ContainsFunc_c A l c w.heap.size (hasB m) _ hl (h1.ext hx) fun x => meet1_c x w.heap.size D m d _ hm (h2.ext hx) hcell)
  have HX := Lib.hid hx
  clear hx hcell
  go_enter Try.func51, Try.ntmps51
  go_wp2_with (go_at_call 83; refine HC.out.mono ?_; rintro e w' ⟨rfl, rfl⟩)
  go_ret
  exact ⟨rfl, HX.out⟩
end Go.Proofs.Ytbhcaniopdgjkaa
namespace Plain
section
variable (adj : Nat → Nat → Bool) (n : Nat)
/-- Ways along neighbours. -/
inductive Conn : Nat → Nat → Prop
  | refl (i : Nat) : Conn i i
  | step {i j k : Nat} : Conn i j → adj j k = true → k < n → Conn i k
theorem Conn.trans {i j k : Nat} (h : Conn adj n i j) (h' : Conn adj n j k) : Conn adj n i k := by
  induction h' with
  | refl => exact h
  | step _ h2 h3 ih => exact .step ih h2 h3
theorem Conn.one {i k : Nat} (h : adj i k = true) (hk : k < n) : Conn adj n i k := .step (.refl i) h hk
theorem Conn.symm (hs : ∀ i k, adj i k = adj k i) {i j : Nat} (hi : i < n) (h : Conn adj n i j) : Conn adj n j i := by
  induction h with
  | refl => exact .refl _
  | @step j k h1 h2 h3 ih =>
    have hj : j < n := by cases h1 with
      | refl => exact hi
      | step _ _ h => exact h
    exact (Conn.one adj n (by rw [hs]; exact h2) hj).trans adj n ih
theorem Conn.lt {i j : Nat} (hi : i < n) (h : Conn adj n i j) : j < n := by
  cases h with
  | refl => exact hi
  | step _ _ h => exact h
/-- The program's search: the list of all that has been seen. -/
def visit : Nat → Nat → List Nat → List Nat
  | 0, i, acc => acc ++ [i]
  | fuel + 1, i, acc => (List.range n).foldl (fun a k => if !(a.contains k) && adj i k then visit fuel k a else a) (acc ++ [i])
def unseen (acc : List Nat) : Nat := ((List.range n).filter fun k => !acc.contains k).length
theorem unseen_mono {a b : List Nat} (h : ∀ x ∈ a, x ∈ b) : unseen n b ≤ unseen n a := by
  unfold unseen
  rw [← List.countP_eq_length_filter, ← List.countP_eq_length_filter]
  refine List.countP_mono_left fun k _ hk => ?_
  simp only [Bool.not_eq_true', List.contains_eq_mem, decide_eq_false_iff_not] at hk ⊢
  exact fun hm => hk (h k hm)
theorem unseen_lt {a : List Nat} {i : Nat} (hi : i < n) (h : i ∉ a) : unseen n (a ++ [i]) < unseen n a := by
  unfold unseen
  have e : ((List.range n).filter fun k => !(a ++ [i]).contains k) = ((List.range n).filter fun k => !a.contains k).filter fun k => !(k == i) := by
    rw [List.filter_filter]
    congr 1
    funext k
    rw [Bool.eq_iff_iff]
    simp
    exact And.comm
  rw [e]
  have hm : i ∈ (List.range n).filter fun k => !a.contains k := by simp [hi, h]
  rcases Nat.lt_or_ge (((List.range n).filter fun k => !a.contains k).filter fun k => !(k == i)).length ((List.range n).filter fun k => !a.contains k).length with q | q
  · exact q
  · have := List.length_filter_eq_length_iff.1 (Nat.le_antisymm (List.length_filter_le _ _) q) i hm
    simp at this
structure Post (i : Nat) (acc r : List Nat) : Prop where
  pre : ∃ g, r = acc ++ g
  self : i ∈ r
  lt : ∀ x ∈ r, x < n
  nodup : r.Nodup
  conn : ∀ x ∈ r, x ∉ acc → Conn adj n i x
  closed : ∀ x ∈ r, x ∉ acc → ∀ k, k < n → adj x k = true → k ∈ r
theorem visit_post : ∀ (fuel i : Nat) (acc : List Nat), unseen n acc ≤ fuel → i < n → i ∉ acc → (∀ x ∈ acc, x < n) → acc.Nodup → Post adj n i acc (visit adj n fuel i acc)
  | 0, i, acc, hf, hi, hni, _, _ => by
    exfalso
    have := unseen_lt n hi hni
    omega
  | fuel + 1, i, acc, hf, hi, hni, hlt, hnd => by
    have key : ∀ (ks : List Nat) (a done : List Nat), (∀ k ∈ ks, k < n) → (∃ g, a = acc ++ [i] ++ g) → (∀ x ∈ a, x < n) → a.Nodup → (∀ x ∈ a, x ∉ acc → Conn adj n i x) → (∀ x ∈ a, x ∉ acc → x ≠ i → ∀ k, k < n → adj x k = true → k ∈ a) → (∀ k ∈ done, adj i k = true → k ∈ a) →
        ∃ r, ks.foldl (fun a k => if !(a.contains k) && adj i k then visit adj n fuel k a else a) a = r ∧ (∃ g, r = acc ++ [i] ++ g) ∧ (∀ x ∈ r, x < n) ∧ r.Nodup ∧ (∀ x ∈ r, x ∉ acc → Conn adj n i x) ∧ (∀ x ∈ r, x ∉ acc → x ≠ i → ∀ k, k < n → adj x k = true → k ∈ r) ∧ (∀ k ∈ done ++ ks, adj i k = true → k ∈ r) := by
      intro ks
      induction ks with
      | nil => intro a done _ h1 h2 h3 h4 h5 h6; exact ⟨a, rfl, h1, h2, h3, h4, h5, by simpa using h6⟩
      | cons k ks ih =>
        intro a done hk h1 h2 h3 h4 h5 h6
        rw [List.foldl_cons]
        have e : done ++ k :: ks = (done ++ [k]) ++ ks := by simp
        rw [e]
        have hkn : k < n := hk k (by simp)
        by_cases hc : (!(a.contains k) && adj i k) = true
        · rw [if_pos hc]
          simp only [Bool.and_eq_true, Bool.not_eq_true', List.contains_eq_mem, decide_eq_false_iff_not] at hc
          obtain ⟨g0, hg0⟩ := h1
          have hfu : unseen n a ≤ fuel := by
            have q1 := unseen_lt n hi hni
            have q2 : unseen n a ≤ unseen n (acc ++ [i]) := unseen_mono n fun x hx => by rw [hg0]; simp at hx ⊢; rcases hx with hx | hx <;> simp [hx]
            omega
          have hp := visit_post fuel k a hfu hkn hc.1 h2 h3
          obtain ⟨g1, hg1⟩ := hp.pre
          have hsub : ∀ x ∈ a, x ∈ visit adj n fuel k a := fun x hx => by rw [hg1]; simp [hx]
          have hik : Conn adj n i k := Conn.one adj n hc.2 hkn
          refine ih _ _ (fun q hq => hk q (by simp [hq])) ⟨g0 ++ g1, by rw [hg1, hg0]; simp⟩ hp.lt hp.nodup ?_ ?_ ?_
          · intro x hx hxa
            by_cases hxa2 : x ∈ a
            · exact h4 x hxa2 hxa
            · exact hik.trans adj n (hp.conn x hx hxa2)
          · intro x hx hxa hxi q hq hadj
            by_cases hxa2 : x ∈ a
            · exact hsub q (h5 x hxa2 hxa hxi q hq hadj)
            · exact hp.closed x hx hxa2 q hq hadj
          · intro q hq hadj
            rcases List.mem_append.1 hq with hq | hq
            · exact hsub q (h6 q hq hadj)
            · rw [List.mem_singleton.1 hq]; exact hp.self
        · rw [if_neg hc]
          refine ih _ _ (fun q hq => hk q (by simp [hq])) h1 h2 h3 h4 h5 ?_
          intro q hq hadj
          rcases List.mem_append.1 hq with hq | hq
          · exact h6 q hq hadj
          · have hqk := List.mem_singleton.1 hq
            subst hqk
            simp only [Bool.and_eq_true, Bool.not_eq_true', List.contains_eq_mem, decide_eq_false_iff_not, not_and] at hc
            by_cases hm : q ∈ a
            · exact hm
            · exact absurd hadj (hc hm)
    have hstart : ∀ x ∈ acc ++ [i], x < n := fun x hx => by
      rcases List.mem_append.1 hx with hx | hx
      · exact hlt x hx
      · rw [List.mem_singleton.1 hx]; exact hi
    have hnd1 : (acc ++ [i]).Nodup := List.nodup_append.2 ⟨hnd, by simp, fun x hx y hy e => by rw [List.mem_singleton.1 hy] at e; exact hni (e ▸ hx)⟩
    obtain ⟨r, hr, ⟨g, hg⟩, r2, r3, r4, r5, r6⟩ := key (List.range n) (acc ++ [i]) [] (fun k hk => List.mem_range.1 hk) ⟨[], by simp⟩ hstart hnd1
      (fun x hx hxa => by
        rcases List.mem_append.1 hx with hx | hx
        · exact absurd hx hxa
        · rw [List.mem_singleton.1 hx]; exact .refl i)
      (fun x hx hxa hxi => by
        rcases List.mem_append.1 hx with hx | hx
        · exact absurd hx hxa
        · exact absurd (List.mem_singleton.1 hx) hxi)
      (fun k hk => by simp at hk)
    have hv : visit adj n (fuel + 1) i acc = r := by rw [visit]; exact hr
    rw [hv]
    refine ⟨⟨[i] ++ g, by rw [hg]; simp⟩, by rw [hg]; simp, r2, r3, r4, ?_⟩
    intro x hx hxa k hk hadj
    by_cases hxi : x = i
    · subst hxi; exact r6 k (by simpa using hk) hadj
    · exact r5 x hx hxa hxi k hk hadj
/-- What has been seen is whole parts. -/
def Closed (acc : List Nat) : Prop := ∀ x ∈ acc, ∀ k, k < n → adj x k = true → k ∈ acc
theorem visit_part (hs : ∀ i k, adj i k = adj k i) {fuel i : Nat} {acc : List Nat} (hf : unseen n acc ≤ fuel) (hi : i < n) (hni : i ∉ acc) (hlt : ∀ x ∈ acc, x < n) (hnd : acc.Nodup) (hc : Closed adj n acc) :
    ∃ g, visit adj n fuel i acc = acc ++ g ∧ g.Nodup ∧ (∀ x, x ∈ g ↔ Conn adj n i x) ∧ Closed adj n (acc ++ g) ∧ (∀ x ∈ acc ++ g, x < n) ∧ (acc ++ g).Nodup := by
  have hp := visit_post adj n fuel i acc hf hi hni hlt hnd
  obtain ⟨g, hg⟩ := hp.pre
  have hnd2 := hp.nodup
  rw [hg] at hnd2
  have hdis : ∀ x ∈ g, x ∉ acc := fun x hx hxa => (List.nodup_append.1 hnd2).2.2 x hxa x hx rfl
  have hcl : Closed adj n (acc ++ g) := by
    intro x hx k hk hadj
    by_cases hxa : x ∈ acc
    · exact List.mem_append.2 (.inl (hc x hxa k hk hadj))
    · have := hp.closed x (by rw [hg]; exact hx) hxa k hk hadj
      rw [hg] at this; exact this
  refine ⟨g, hg, (List.nodup_append.1 hnd2).2.1, fun x => ⟨fun hx => hp.conn x (by rw [hg]; simp [hx]) (hdis x hx), fun hx => ?_⟩, hcl, by rw [← hg]; exact hp.lt, hnd2⟩
  induction hx with
  | refl =>
    have := hp.self
    rw [hg] at this
    rcases List.mem_append.1 this with h | h
    · exact absurd h hni
    · exact h
  | @step j k h1 h2 h3 ih =>
    have hm := hcl j (by simp [ih]) k h3 h2
    rcases List.mem_append.1 hm with h | h
    · have hj : j < n := Conn.lt adj n hi h1
      exact absurd (hc k h j hj (by rw [hs]; exact h2)) (hdis j ih)
    · exact h
end
end Plain
