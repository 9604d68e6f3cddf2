import Derived.Test.YtbaahbpianingaaDoorAccD
namespace Acc
/-- The cards of a text, one by one: syntax 1, form 6, order 11. -/
def readGo (i : Nat) (last : Int) (out text : List Int) : List Int × (Int × Int) :=
  match _h : text with
  | [] => (out, (0, 0))
  | _ :: _ =>
    match readCard (text.take 10) with
    | none => ([], (1, (i : Int)))
    | some (a, v) => if v = 0 then ([], (6, (i : Int))) else if (a : Int) ≤ last then ([], (11, (i : Int))) else readGo (i + 1) a (out.set a v) (text.drop 10)
termination_by text.length
decreasing_by subst _h; simp; omega
def zeros : List Int := List.replicate 100 0
def readDeck (text : List Int) : List Int × (Int × Int) := if 1000 < text.length then ([], (3, -1)) else readGo 0 (-1) zeros text
theorem card_len {i : Nat} {v : Int} (hi : i < 100) (hv : v.natAbs < 100000) : (cardF i v).length = 10 := by
  unfold cardF
  rw [pad_dec (by omega) (by simpa using hi), pad_dec (by omega) (by simpa using hv)]
  simp [fix_len]
theorem readGo_nil (i : Nat) (last : Int) (out : List Int) : readGo i last out [] = (out, (0, 0)) := by rw [readGo]
theorem readGo_card {i : Nat} {last : Int} {out c t : List Int} (hc : c.length = 10) : readGo i last out (c ++ t) = match readCard c with
    | none => ([], (1, (i : Int)))
    | some (a, v) => if v = 0 then ([], (6, (i : Int))) else if (a : Int) ≤ last then ([], (11, (i : Int))) else readGo (i + 1) a (out.set a v) t := by
  match c, hc with
  | x :: r, hc =>
    rw [readGo.eq_def]
    simp only [List.cons_append]
    have h1 : (x :: (r ++ t)).take 10 = x :: r := by rw [← List.cons_append]; exact List.take_left' hc
    have h2 : (x :: (r ++ t)).drop 10 = t := by rw [← List.cons_append]; exact List.drop_left' hc
    rw [h1, h2]
theorem deckGo_append : ∀ (l r : List Int) (i : Nat), deckGo i (l ++ r) = deckGo i l ++ deckGo (i + l.length) r
  | [], r, i => by simp [deckGo]
  | v :: l, r, i => by
    rw [List.cons_append, deckGo, deckGo, deckGo_append l r (i + 1), List.append_assoc, List.length_cons]
    congr 3
    omega
theorem deckGo_zeros : ∀ (k i : Nat), deckGo i (List.replicate k 0) = []
  | 0, _ => rfl
  | k + 1, i => by rw [List.replicate_succ, deckGo, if_pos rfl, deckGo_zeros k]; rfl
theorem deckGo_len : ∀ (l : List Int) (i : Nat), i + l.length ≤ 100 → (∀ v ∈ l, five v = true) → (deckGo i l).length ≤ 10 * l.length
  | [], _, _, _ => by simp [deckGo]
  | v :: l, i, h, hv => by
    have h1 := five_iff.1 (hv v (by simp))
    have := deckGo_len l (i + 1) (by simp at h; omega) (fun x hx => hv x (by simp [hx]))
    rw [deckGo, List.length_append, List.length_cons]
    split
    · simp; omega
    · rw [card_len (by simp at h; omega) (by omega)]; omega
/-- What has been written is read. -/
theorem readGo_deck : ∀ (r pre : List Int) (i : Nat) (last : Int), pre.length + r.length ≤ 100 → (∀ v ∈ r, five v = true) → last < pre.length →
    readGo i last (pre ++ List.replicate (100 - pre.length) 0) (deckGo pre.length r) = (pre ++ r ++ List.replicate (100 - (pre.length + r.length)) 0, (0, 0))
  | [], pre, i, last, _, _, _ => by rw [deckGo, readGo_nil]; simp
  | v :: r, pre, i, last, h, hv, hl => by
    have h1 := five_iff.1 (hv v (by simp))
    have hlen : pre.length < 100 := by simp at h; omega
    have hrep : List.replicate (100 - pre.length) (0 : Int) = 0 :: List.replicate (100 - (pre.length + 1)) 0 := by
      rw [show 100 - pre.length = (100 - (pre.length + 1)) + 1 by omega, List.replicate_succ]
    have hpl : (pre ++ [v]).length = pre.length + 1 := by simp
    rw [deckGo]
    by_cases h0 : v = 0
    · subst h0
      rw [if_pos rfl, List.nil_append]
      have := readGo_deck r (pre ++ [0]) i last (by rw [hpl]; simp at h; omega) (fun x hx => hv x (by simp [hx])) (by rw [hpl]; omega)
      rw [hpl] at this
      rw [hrep]
      have e : pre ++ (0 : Int) :: List.replicate (100 - (pre.length + 1)) 0 = pre ++ [0] ++ List.replicate (100 - (pre.length + 1)) 0 := by simp
      rw [e, this]
      simp only [List.length_cons, List.append_assoc, List.cons_append, List.nil_append, Prod.mk.injEq, and_true]
      rw [show pre.length + 1 + r.length = pre.length + (r.length + 1) by omega]
    · rw [if_neg h0, readGo_card (card_len hlen (by omega)), readCard_card hlen (by omega)]
      simp only
      rw [if_neg h0, if_neg (by omega)]
      have := readGo_deck r (pre ++ [v]) (i + 1) pre.length (by rw [hpl]; simp at h; omega) (fun x hx => hv x (by simp [hx])) (by rw [hpl]; omega)
      rw [hpl] at this
      rw [hrep, List.set_append_right _ _ (Nat.le_refl _), Nat.sub_self, List.set_cons_zero]
      have e : pre ++ v :: List.replicate (100 - (pre.length + 1)) 0 = pre ++ [v] ++ List.replicate (100 - (pre.length + 1)) 0 := by simp
      rw [e, this]
      simp only [List.length_cons, List.append_assoc, List.cons_append, List.nil_append, Prod.mk.injEq, and_true]
      rw [show pre.length + 1 + r.length = pre.length + (r.length + 1) by omega]
theorem read_written {l : List Int} (h : l.length ≤ 100) (hv : ∀ v ∈ l, five v = true) : readDeck (deckText l) = (l ++ List.replicate (100 - l.length) 0, (0, 0)) := by
  unfold readDeck deckText
  have hl := deckGo_len l 0 (by omega) hv
  rw [if_neg (by omega)]
  have := readGo_deck l [] 0 (-1) (by simpa using h) hv (by simp)
  simpa [zeros] using this
/-- What has been read is written again. -/
theorem readGo_ok : ∀ (n : Nat) (text out : List Int) (i : Nat) (last : Int) (m : List Int), text.length ≤ n → out.length = 100 → (∀ v ∈ out, five v = true) → (∀ k : Nat, last < k → k < 100 → out[k]? = some 0) → -1 ≤ last →
    readGo i last out text = (m, (0, 0)) → deckText m = deckText out ++ text ∧ m.length = 100 ∧ ∀ v ∈ m, five v = true
  | n, [], out, i, last, m, _, ho, hv, _, _, h => by
    rw [readGo_nil] at h
    injection h with h
    subst h
    exact ⟨by simp, ho, hv⟩
  | n, x :: t, out, i, last, m, hn, ho, hv, hz, hl, h => by
    rw [readGo] at h
    match n, hn with
    | n + 1, hn =>
    cases hc : readCard ((x :: t).take 10) with
    | none => rw [hc] at h; cases h
    | some p =>
      obtain ⟨a, v⟩ := p
      rw [hc] at h
      simp only at h
      by_cases h0 : v = 0
      · rw [if_pos h0] at h; cases h
      rw [if_neg h0] at h
      by_cases h1 : (a : Int) ≤ last
      · rw [if_pos h1] at h; cases h
      rw [if_neg h1] at h
      obtain ⟨e1, e2, e3⟩ := card_readCard hc h0
      have hzs : ∀ k : Nat, a ≤ k → k < 100 → out[k]? = some 0 := fun k hk hk2 => hz k (by omega) hk2
      have hout : out = out.take a ++ 0 :: List.replicate (100 - (a + 1)) 0 := by
        apply List.ext_getElem?
        intro k
        by_cases hk : k < a
        · rw [List.getElem?_append_left (by simp; omega), List.getElem?_take, if_pos hk]
        · have hta : (out.take a).length = a := by simp; omega
          rw [List.getElem?_append_right (by omega), hta]
          by_cases hk2 : k < 100
          · rw [hzs k (by omega) hk2]
            rw [← List.replicate_succ, List.getElem?_replicate, if_pos (by omega)]
          · rw [List.getElem?_eq_none (by omega), ← List.replicate_succ, List.getElem?_replicate, if_neg (by omega)]
      have hset : out.set a v = out.take a ++ v :: List.replicate (100 - (a + 1)) 0 := by
        have hta : (out.take a).length = a := by simp; omega
        conv => lhs; rw [hout]
        rw [List.set_append_right _ _ (by omega), hta, Nat.sub_self, List.set_cons_zero]
      have hd : deckText (out.set a v) = deckText out ++ cardF a v := by
        have hta : (out.take a).length = a := by simp; omega
        rw [hset]
        conv => rhs; rw [hout]
        unfold deckText
        rw [deckGo_append, deckGo_append, hta, Nat.zero_add, deckGo, deckGo, if_neg h0, if_pos rfl, deckGo_zeros]
        simp
      obtain ⟨r1, r2, r3⟩ := readGo_ok n ((x :: t).drop 10) (out.set a v) (i + 1) a m (by simp at hn ⊢; omega) (by simpa using ho) (set_five hv (five_iff.2 (by omega))) (fun k hk hk2 => by rw [List.getElem?_set_ne (by omega)]; exact hz k (by omega) hk2) (by omega) h
      refine ⟨?_, r2, r3⟩
      rw [r1, hd, e1, List.append_assoc, List.take_append_drop]
theorem written_read {text m : List Int} (h : readDeck text = (m, (0, 0))) : deckText m = text ∧ m.length = 100 ∧ ∀ v ∈ m, five v = true := by
  unfold readDeck at h
  split at h
  · cases h
  · obtain ⟨a, b, c⟩ := readGo_ok text.length text zeros 0 (-1) m (Nat.le_refl _) (by simp [zeros]) (by intro v hv; rw [List.eq_of_mem_replicate hv]; rfl) (fun k _ hk => by unfold zeros; rw [List.getElem?_replicate, if_pos hk]) (by omega) h
    refine ⟨?_, b, c⟩
    rw [a]
    unfold deckText zeros
    rw [deckGo_zeros]
    rfl
end Acc
