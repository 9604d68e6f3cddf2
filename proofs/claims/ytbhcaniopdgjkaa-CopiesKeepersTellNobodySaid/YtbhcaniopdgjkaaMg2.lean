import Derived.Test.YtbhcaniopdgjkaaMg1
namespace Go.Proofs.Ytbhcaniopdgjkaa
open Go Go.Proofs Go.RowKit
set_option maxHeartbeats 800000
def hasB (l : List Int) (n : Int) : Bool := l.contains n
theorem take_has {l : List Int} {n x : Int} {k : Nat} (h : n ∉ l.take k) (hx : l[k]? = some x) (hn : x ≠ n) : n ∉ l.take (k + 1) := by
  obtain ⟨h1, rfl⟩ := List.getElem?_eq_some_iff.1 hx
  rw [List.take_succ_eq_append_getElem h1]
  intro hm
  rcases List.mem_append.1 hm with hm | hm
  · exact h hm
  · exact hn (List.mem_singleton.1 hm).symm
theorem Has_c (A : Option Addr) (l : List Int) (c : Nat) (n : Int) (w : World) (hl : l.length ≤ maxLen) (h1 : Sl w .i64 A l) :
    Calls Try.prog 34 #[.slice A l.length c, .int .i64 n] w fun e w' => e = .returned (.bool (hasB l n)) ∧ w = w' := by
  unfold maxLen at hl
  obtain ⟨q, hq⟩ : ∃ q, q = l.length := ⟨_, rfl⟩
  rw [← hq] at hl ⊢
  have HQ := Lib.hid hq
  clear hq
  go_enter Try.func34, Try.ntmps34
  go_wp2
  go_loop [5] (fun i => ∃ k : Nat, k ≤ q ∧ i = .int .i64 k ∧ n ∉ l.take k) (fun i => q - (intOf i).toNat)
  case atStart => exact ⟨0, Nat.zero_le _, rfl, by simp⟩
  case round =>
    obtain ⟨k, hk, rfl, hr⟩ := hrel
    have HR := Lib.hid hr
    clear hr
    by_cases hlt : k < q
    · have hkl : k < l.length := by rw [← HQ.out]; exact hlt
      obtain ⟨b, o, x, rfl, hx, ha⟩ := h1.at2 hkl
      clear hkl
      by_cases hne : x = n
      · have HC : Hid (hasB l n = true) := by
          show l.contains n = true
          rw [List.contains_iff_mem, ← hne]; exact List.mem_of_getElem? hx.out
        subst hne
        go_wp2
        go_ret
        exact ⟨ret_bool HC.out.symm, rfl⟩
      · have hb : (x == n) = false := by simpa using hne
        go_wp2
        go_round
        case rel => exact ⟨k + 1, by omega, by go_num, take_has HR.out hx.out hne⟩
        case measure => simp [intOf]; omega
    · have HC : Hid (hasB l n = false) := by
        show l.contains n = false
        have := HR.out
        rw [List.take_of_length_le (by rw [← HQ.out]; omega)] at this
        simpa using this
      go_wp2
      go_ret
      exact ⟨ret_bool HC.out.symm, rfl⟩
theorem any_take {p : Int → Bool} {l : List Int} {x : Int} {k : Nat} (h : (l.take k).any p = false) (hx : l[k]? = some x) (hn : p x = false) : (l.take (k + 1)).any p = false := by
  obtain ⟨h1, rfl⟩ := List.getElem?_eq_some_iff.1 hx
  rw [List.take_succ_eq_append_getElem h1, List.any_append, h]
  simp [hn]
theorem any_full {p : Int → Bool} {l : List Int} {k : Nat} (h : (l.take k).any p = false) (hk : l.length ≤ k) : l.any p = false := by
  rw [List.take_of_length_le hk] at h; exact h
theorem any_here {p : Int → Bool} {l : List Int} {x : Int} {k : Nat} (hx : l[k]? = some x) (hn : p x = true) : l.any p = true := List.any_eq_true.2 ⟨x, List.mem_of_getElem? hx, hn⟩
/-- Two lists meet. -/
def meetsB (a b : List Int) : Bool := a.any fun x => hasB b x
def noneTo (p : Int → Bool) (l : List Int) (k : Nat) : Prop := (l.take k).any p = false
theorem meets_c (A B : Option Addr) (l m : List Int) (c d : Nat) (w : World) (hl : l.length ≤ maxLen) (hm : m.length ≤ maxLen) (h1 : Sl w .i64 A l) (h2 : Sl w .i64 B m) :
    Calls Try.prog 58 #[.slice A l.length c, .slice B m.length d] w fun e w' => e = .returned (.bool (meetsB l m)) ∧ w = w' := by
  have HM := Lib.hid (fun n => Has_c B m d n w hm h2)
  unfold maxLen at hl
  obtain ⟨q, hq⟩ : ∃ q, q = l.length := ⟨_, rfl⟩
  rw [← hq] at hl ⊢
  have HQ := Lib.hid hq
  clear hq hm h2
  go_enter Try.func58, Try.ntmps58
  go_wp2
  go_loop [5] (fun i => ∃ k : Nat, k ≤ q ∧ i = .int .i64 k ∧ noneTo (fun x => hasB m x) l k) (fun i => q - (intOf i).toNat)
  case atStart => exact ⟨0, Nat.zero_le _, rfl, by simp [noneTo]⟩
  case round =>
    obtain ⟨k, hk, rfl, hr⟩ := hrel
    have HR := Lib.hid hr
    clear hr
    by_cases hlt : k < q
    · have hkl : k < l.length := by rw [← HQ.out]; exact hlt
      obtain ⟨b, o, x, rfl, hx, ha⟩ := h1.at2 hkl
      clear hkl
      cases hb : hasB m x with
      | true =>
        have HC : Hid (meetsB l m = true) := any_here hx.out hb
        go_wp2_with (go_at_call 34; refine (HM.out _).mono ?_; rintro e w' ⟨rfl, rfl⟩)
        go_ret
        exact ⟨ret_bool HC.out.symm, rfl⟩
      | false =>
        go_wp2_with (go_at_call 34; refine (HM.out _).mono ?_; rintro e w' ⟨rfl, rfl⟩)
        go_round
        case rel => exact ⟨k + 1, by omega, by go_num, any_take HR.out hx.out hb⟩
        case measure => simp [intOf]; omega
    · have HC : Hid (meetsB l m = false) := any_full HR.out (by rw [← HQ.out]; omega)
      go_wp2
      go_ret
      exact ⟨ret_bool HC.out.symm, rfl⟩
end Go.Proofs.Ytbhcaniopdgjkaa
namespace Plain
/-- Lexicographic order of lists. -/
def lexB : List Int → List Int → Bool
  | [], [] => false
  | [], _ :: _ => true
  | _ :: _, [] => false
  | x :: a, y :: b => if x = y then lexB a b else decide (x < y)
theorem lexB_irrefl : ∀ a, lexB a a = false
  | [] => rfl
  | x :: a => by simp [lexB, lexB_irrefl a]
theorem lexB_trans : ∀ a b c, lexB a b = true → lexB b c = true → lexB a c = true
  | [], [], _, h, _ => by simp [lexB] at h
  | [], _ :: _, [], _, h => by simp [lexB] at h
  | [], _ :: _, _ :: _, _, _ => by simp [lexB]
  | _ :: _, [], _, h, _ => by simp [lexB] at h
  | _ :: _, _ :: _, [], _, h => by simp [lexB] at h
  | x :: a, y :: b, z :: c, h1, h2 => by
    simp only [lexB] at h1 h2 ⊢
    by_cases e1 : x = y
    · rw [if_pos e1] at h1
      by_cases e2 : y = z
      · rw [if_pos e2] at h2
        rw [if_pos (e1.trans e2)]
        exact lexB_trans a b c h1 h2
      · rw [if_neg e2] at h2
        rw [if_neg (by rw [e1]; exact e2), e1]
        exact h2
    · rw [if_neg e1] at h1
      simp only [decide_eq_true_eq] at h1
      by_cases e2 : y = z
      · subst e2
        rw [if_neg e1]
        simpa using h1
      · rw [if_neg e2] at h2
        simp only [decide_eq_true_eq] at h2
        rw [if_neg (by omega)]
        simp only [decide_eq_true_eq]; omega
theorem lexB_total : ∀ a b, lexB a b = true ∨ a = b ∨ lexB b a = true
  | [], [] => .inr (.inl rfl)
  | [], _ :: _ => .inl rfl
  | _ :: _, [] => .inr (.inr rfl)
  | x :: a, y :: b => by
    simp only [lexB]
    by_cases e : x = y
    · subst e
      simp only [if_true, List.cons.injEq, true_and]
      exact lexB_total a b
    · rw [if_neg e, if_neg (fun q => e q.symm)]
      simp only [decide_eq_true_eq, List.cons.injEq]
      omega
theorem lexB_asymm (a b : List Int) (h : lexB a b = true) : lexB b a = false := by
  cases h' : lexB b a with
  | false => rfl
  | true => have := lexB_trans a b a h h'; rw [lexB_irrefl] at this; cases this
/-- The sublists of a length, in lexicographic order of their places. -/
def combs : Nat → List Int → List (List Int)
  | 0, _ => [[]]
  | _ + 1, [] => []
  | k + 1, x :: r => (combs k r).map (x :: ·) ++ combs (k + 1) r
theorem mem_combs : ∀ (k : Nat) (l c : List Int), c ∈ combs k l ↔ c.Sublist l ∧ c.length = k
  | 0, l, c => by
    simp only [combs, List.mem_singleton]
    constructor
    · rintro rfl; exact ⟨List.nil_sublist _, rfl⟩
    · rintro ⟨_, h⟩; exact List.length_eq_zero_iff.1 h
  | k + 1, [], c => by
    simp only [combs, List.not_mem_nil, false_iff]
    rintro ⟨h1, h2⟩
    rw [List.sublist_nil.1 h1] at h2
    simp at h2
  | k + 1, x :: r, c => by
    simp only [combs, List.mem_append, List.mem_map, mem_combs k r, mem_combs (k + 1) r]
    constructor
    · rintro (⟨d, ⟨h1, h2⟩, rfl⟩ | ⟨h1, h2⟩)
      · exact ⟨h1.cons_cons x, by simp [h2]⟩
      · exact ⟨h1.cons x, h2⟩
    · rintro ⟨h1, h2⟩
      cases h1 with
      | cons _ h => exact .inr ⟨h, h2⟩
      | cons_cons _ h => exact .inl ⟨_, ⟨h, by simpa using h2⟩, rfl⟩
theorem combs_sorted : ∀ (k : Nat) (l : List Int), l.Pairwise (· < ·) → (combs k l).Pairwise (fun a b => lexB a b = true)
  | 0, _, _ => by simp [combs]
  | _ + 1, [], _ => by simp [combs]
  | k + 1, x :: r, h => by
    obtain ⟨h1, h2⟩ := List.pairwise_cons.1 h
    rw [combs, List.pairwise_append]
    refine ⟨?_, combs_sorted (k + 1) r h2, ?_⟩
    · rw [List.pairwise_map]
      exact (combs_sorted k r h2).imp fun hab => by simpa [lexB] using hab
    · intro a ha b hb
      obtain ⟨a', _, rfl⟩ := List.mem_map.1 ha
      obtain ⟨hb1, hb2⟩ := (mem_combs (k + 1) r b).1 hb
      cases b with
      | nil => simp at hb2
      | cons y b' =>
        have hy : y ∈ r := hb1.subset (by simp)
        have := h1 y hy
        simp only [lexB]
        rw [if_neg (by omega)]
        simpa using this
/-- What is chosen by the bits of a number. -/
def subsetM : List Int → Nat → List Int
  | [], _ => []
  | x :: r, m => if m % 2 = 1 then x :: subsetM r (m / 2) else subsetM r (m / 2)
theorem subsetM_sub : ∀ (l : List Int) (m : Nat), (subsetM l m).Sublist l
  | [], _ => List.Sublist.slnil
  | x :: r, m => by
    simp only [subsetM]
    split
    · exact (subsetM_sub r _).cons_cons x
    · exact (subsetM_sub r _).cons x
theorem subsetM_all : ∀ (l c : List Int), c.Sublist l → ∃ m, m < 2 ^ l.length ∧ subsetM l m = c
  | [], c, h => ⟨0, by simp, by rw [List.sublist_nil.1 h]; rfl⟩
  | x :: r, c, h => by
    cases h with
    | cons _ h =>
      obtain ⟨m, h1, h2⟩ := subsetM_all r c h
      refine ⟨2 * m, by simp only [List.length_cons, Nat.pow_succ]; omega, ?_⟩
      simp only [subsetM]
      rw [if_neg (by omega), show 2 * m / 2 = m from by omega, h2]
    | cons_cons _ h =>
      rename_i c'
      obtain ⟨m, h1, h2⟩ := subsetM_all r c' h
      refine ⟨2 * m + 1, by simp only [List.length_cons, Nat.pow_succ]; omega, ?_⟩
      simp only [subsetM]
      rw [if_pos (by omega), show (2 * m + 1) / 2 = m from by omega, h2]
/-- b is the best of the candidates: the least number, then the least in order. -/
def Best (num : List Int → Nat) (cs : List (List Int)) (b : List Int) : Prop := b ∈ cs ∧ ∀ c ∈ cs, num b < num c ∨ (num b = num c ∧ (b = c ∨ lexB b c = true))
theorem best_unique {num : List Int → Nat} {cs ds : List (List Int)} {b d : List Int} (h : Best num cs b) (k : Best num ds d) (e : ∀ c, c ∈ cs ↔ c ∈ ds) : b = d := by
  have h1 := h.2 d ((e d).2 k.1)
  have h2 := k.2 b ((e b).1 h.1)
  rcases h1 with h1 | ⟨h1, h3 | h3⟩
  · rcases h2 with h2 | ⟨h2, _⟩ <;> omega
  · exact h3
  · rcases h2 with h2 | ⟨h2, h4 | h4⟩
    · omega
    · exact h4.symm
    · rw [lexB_asymm b d h3] at h4; cases h4
/-- The program's search: the first with the least number. -/
def scanFirst (num : List Int → Nat) : List (List Int) → Option (List Int) → Option (List Int)
  | [], acc => acc
  | c :: cs, none => scanFirst num cs (some c)
  | c :: cs, some b => scanFirst num cs (some (if num c < num b then c else b))
theorem scanFirst_some (num : List Int → Nat) : ∀ (cs : List (List Int)) (b : List Int) (pre : List (List Int)), (pre ++ cs).Pairwise (fun a b => lexB a b = true) → Best num pre b → ∃ r, scanFirst num cs (some b) = some r ∧ Best num (pre ++ cs) r
  | [], b, pre, _, h => ⟨b, rfl, by simpa using h⟩
  | c :: cs, b, pre, hs, h => by
    have e : pre ++ c :: cs = (pre ++ [c]) ++ cs := by simp
    rw [e] at hs ⊢
    refine scanFirst_some num cs _ (pre ++ [c]) hs ?_
    have hp := (List.pairwise_append.1 (List.pairwise_append.1 hs).1).2.2
    by_cases hc : num c < num b
    · rw [if_pos hc]
      refine ⟨by simp, fun d hd => ?_⟩
      rcases List.mem_append.1 hd with hd | hd
      · rcases h.2 d hd with q | ⟨q, _⟩
        · exact .inl (by omega)
        · exact .inl (by omega)
      · rw [List.mem_singleton.1 hd]; exact .inr ⟨rfl, .inl rfl⟩
    · rw [if_neg hc]
      refine ⟨by simp [h.1], fun d hd => ?_⟩
      rcases List.mem_append.1 hd with hd | hd
      · exact h.2 d hd
      · rw [List.mem_singleton.1 hd]
        have hl := hp b h.1 c (by simp)
        by_cases q : num b < num c
        · exact .inl q
        · exact .inr ⟨by omega, .inr hl⟩
theorem scanFirst_best (num : List Int → Nat) (cs : List (List Int)) (hs : cs.Pairwise (fun a b => lexB a b = true)) (hne : cs ≠ []) : ∃ r, scanFirst num cs none = some r ∧ Best num cs r := by
  cases cs with
  | nil => exact absurd rfl hne
  | cons c cs =>
    have := scanFirst_some num cs c [c] (by simpa using hs) ⟨by simp, fun d hd => by rw [List.mem_singleton.1 hd]; exact .inr ⟨rfl, .inl rfl⟩⟩
    simpa [scanFirst] using this
/-- The specification's search, in whatever order. -/
def scanLess (num : List Int → Nat) : List (List Int) → Option (List Int) → Option (List Int)
  | [], acc => acc
  | c :: cs, none => scanLess num cs (some c)
  | c :: cs, some b => scanLess num cs (some (if num c < num b ∨ (num c = num b ∧ lexB c b = true) then c else b))
theorem scanLess_some (num : List Int → Nat) : ∀ (cs : List (List Int)) (b : List Int) (pre : List (List Int)), Best num pre b → ∃ r, scanLess num cs (some b) = some r ∧ Best num (pre ++ cs) r
  | [], b, pre, h => ⟨b, rfl, by simpa using h⟩
  | c :: cs, b, pre, h => by
    have e : pre ++ c :: cs = (pre ++ [c]) ++ cs := by simp
    rw [e]
    refine scanLess_some num cs _ (pre ++ [c]) ?_
    by_cases hc : num c < num b ∨ (num c = num b ∧ lexB c b = true)
    · rw [if_pos hc]
      refine ⟨by simp, fun d hd => ?_⟩
      rcases List.mem_append.1 hd with hd | hd
      · rcases hc with hc | ⟨hc, hl⟩
        · rcases h.2 d hd with q | ⟨q, _⟩
          · exact .inl (by omega)
          · exact .inl (by omega)
        · rcases h.2 d hd with q | ⟨q, q2 | q2⟩
          · exact .inl (by omega)
          · subst q2; exact .inr ⟨hc, .inr hl⟩
          · exact .inr ⟨by omega, .inr (lexB_trans _ _ _ hl q2)⟩
      · rw [List.mem_singleton.1 hd]; exact .inr ⟨rfl, .inl rfl⟩
    · rw [if_neg hc]
      refine ⟨by simp [h.1], fun d hd => ?_⟩
      rcases List.mem_append.1 hd with hd | hd
      · exact h.2 d hd
      · rw [List.mem_singleton.1 hd]
        by_cases q : num b < num c
        · exact .inl q
        · have e2 : num b = num c := by omega
          rcases lexB_total b c with t | t | t
          · exact .inr ⟨e2, .inr t⟩
          · exact .inr ⟨e2, .inl t⟩
          · exact absurd (.inr ⟨e2.symm, t⟩) hc
theorem scanLess_best (num : List Int → Nat) (cs : List (List Int)) (hne : cs ≠ []) : ∃ r, scanLess num cs none = some r ∧ Best num cs r := by
  cases cs with
  | nil => exact absurd rfl hne
  | cons c cs =>
    have := scanLess_some num cs c [c] ⟨by simp, fun d hd => by rw [List.mem_singleton.1 hd]; exact .inr ⟨rfl, .inl rfl⟩⟩
    simpa [scanLess] using this
end Plain
