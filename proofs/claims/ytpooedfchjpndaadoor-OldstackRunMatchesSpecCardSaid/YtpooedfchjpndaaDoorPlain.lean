import Derived.Test.YtpooedfchjpndaaDoorOkStep
namespace Go.Proofs.YtpooedfchjpndaaDoor
open Go Go.RowKit
theorem badIdx_ok {l : List Int} (h : ∀ x ∈ l, 0 ≤ x ∧ x ≤ 256) : badIdx l = none := by
  unfold badIdx
  rw [List.findIdx?_eq_none_iff]
  intro x hx
  have := h x hx
  simp
  omega
theorem fault_ok {s : St} (h : OkSt s) : faultOf s = (0, 0) := by
  have h1 := h.il
  have h2 := h.inl
  have h3 := h.ol
  have h4 := h.dl
  have h5 := h.rl
  have h6 := h.at0
  have h7 := h.at1
  have h8 := h.st0
  have h9 := h.st1
  unfold faultOf
  rw [if_neg (by omega), if_neg (by omega), if_neg (by omega), badIdx_ok h.ret]
theorem runF_ok : ∀ (n : Nat) (s : St), OkSt s → OkSt (runF n s).1
  | 0, _, h => h
  | n + 1, s, h => by
    unfold runF
    by_cases hs : s.stop = 0
    · rw [if_pos hs]; exact runF_ok n _ (ok_step h)
    · rw [if_neg hs]; exact h
theorem runF_stop {s : St} (h : s.stop ≠ 0) (n : Nat) : runF n s = (s, 0) := by
  cases n with
  | zero => rfl
  | succ n => unfold runF; rw [if_neg h]
theorem runF_le : ∀ (n : Nat) (s : St), (runF n s).2 ≤ n
  | 0, _ => Nat.le_refl _
  | n + 1, s => by
    unfold runF
    by_cases hs : s.stop = 0
    · rw [if_pos hs]; exact Nat.succ_le_succ (runF_le n _)
    · rw [if_neg hs]; exact Nat.zero_le _
theorem runF_add : ∀ (m n : Nat) (s : St), runF (m + n) s = ((runF n (runF m s).1).1, (runF m s).2 + (runF n (runF m s).1).2)
  | 0, n, s => by simp [runF]
  | m + 1, n, s => by
    by_cases hs : s.stop = 0
    · have e1 : ∀ k, runF (k + 1) s = ((runF k (stepF s)).1, (runF k (stepF s)).2 + 1) := fun k => by
        rw [runF, if_pos hs]
      rw [show m + 1 + n = (m + n) + 1 from by omega, e1, e1, runF_add m n (stepF s)]
      simp only [Prod.mk.injEq, true_and]
      omega
    · rw [runF_stop hs, runF_stop hs, runF_stop hs]
      rfl
/-- What a run leaves of the streams. -/
structure Streams (s t : St) : Prop where
  image : t.image = s.image
  input : ∃ k, k ≤ s.input.length ∧ t.input = s.input.drop k
  output : ∃ l, t.output = s.output ++ l
theorem Streams.refl (s : St) : Streams s s := ⟨rfl, ⟨0, Nat.zero_le _, rfl⟩, ⟨[], by simp⟩⟩
theorem Streams.trans {s t u : St} (h : Streams s t) (k : Streams t u) : Streams s u := by
  obtain ⟨i, hi, hi'⟩ := h.input
  obtain ⟨j, hj, hj'⟩ := k.input
  obtain ⟨l, hl⟩ := h.output
  obtain ⟨m, hm⟩ := k.output
  refine ⟨k.image.trans h.image, ⟨i + j, ?_, ?_⟩, ⟨l ++ m, by rw [hm, hl, List.append_assoc]⟩⟩
  · rw [hi', List.length_drop] at hj; omega
  · rw [hj', hi', List.drop_drop]
theorem eff_streams (s : St) (op n a b : Int) : Streams s (effF s op n a b).2 := by
  unfold effF
  by_cases h0 : op = 0
  · rw [if_pos h0]
    exact ⟨rfl, ⟨0, Nat.zero_le _, rfl⟩, ⟨[], by simp⟩⟩
  rw [if_neg h0]
  by_cases h1 : op = 1
  · rw [if_pos h1]
    exact Streams.refl s
  rw [if_neg h1]
  by_cases h2 : op = 2
  · rw [if_pos h2]
    exact Streams.refl s
  rw [if_neg h2]
  by_cases h3 : op = 3
  · rw [if_pos h3]
    exact Streams.refl s
  rw [if_neg h3]
  by_cases h4 : op = 4
  · rw [if_pos h4]
    exact Streams.refl s
  rw [if_neg h4]
  by_cases h5 : op = 5
  · rw [if_pos h5]
    exact Streams.refl s
  rw [if_neg h5]
  by_cases h16 : op = 16
  · rw [if_pos h16]
    exact ⟨rfl, ⟨0, Nat.zero_le _, rfl⟩, ⟨[], by simp⟩⟩
  rw [if_neg h16]
  by_cases h17 : op = 17
  · rw [if_pos h17]
    by_cases hb : b = 0
    · simp only [hb, if_true]
      exact ⟨rfl, ⟨0, Nat.zero_le _, rfl⟩, ⟨[], by simp⟩⟩
    · simp only [hb, if_false]
      exact Streams.refl s
  rw [if_neg h17]
  by_cases h18 : op = 18
  · rw [if_pos h18]
    exact ⟨rfl, ⟨0, Nat.zero_le _, rfl⟩, ⟨[], by simp⟩⟩
  rw [if_neg h18]
  by_cases h19 : op = 19
  · rw [if_pos h19]
    exact ⟨rfl, ⟨0, Nat.zero_le _, rfl⟩, ⟨[], by simp⟩⟩
  rw [if_neg h19]
  by_cases h20 : op = 20
  · rw [if_pos h20]
    exact Streams.refl s
  rw [if_neg h20]
  by_cases h21 : op = 21
  · rw [if_pos h21]
    exact ⟨rfl, ⟨0, Nat.zero_le _, rfl⟩, ⟨[], by simp⟩⟩
  rw [if_neg h21]
  by_cases h22 : op = 22
  · rw [if_pos h22]
    cases hin : s.input with
    | nil => exact Streams.refl s
    | cons x r => exact ⟨rfl, ⟨1, by rw [hin]; simp, by rw [hin]; rfl⟩, ⟨[], by simp⟩⟩
  rw [if_neg h22]
  by_cases h23 : op = 23
  · rw [if_pos h23]
    exact ⟨rfl, ⟨0, Nat.zero_le _, rfl⟩, ⟨_, rfl⟩⟩
  rw [if_neg h23]
  exact Streams.refl s
theorem step_streams (s : St) : Streams s (stepF s) := by
  unfold stepF
  split
  · have h := eff_streams { s with at_ := s.at_ + 1 + sizeOp (opOf s), data := s.data.take (s.data.length - (takesOf (opOf s)).toNat) } (opOf s) (operandF s) (topF s.data 1) (topF s.data 0)
    exact ⟨h.image, h.input, h.output⟩
  · exact ⟨rfl, ⟨0, Nat.zero_le _, rfl⟩, ⟨[], by simp⟩⟩
theorem run_streams : ∀ (n : Nat) (s : St), Streams s (runF n s).1
  | 0, s => Streams.refl s
  | n + 1, s => by
    unfold runF
    by_cases hs : s.stop = 0
    · rw [if_pos hs]; exact (step_streams s).trans (run_streams n _)
    · rw [if_neg hs]; exact Streams.refl s
theorem eff_stop (s : St) (op n a b : Int) : (effF s op n a b).2.stop = if op = 0 then 1 else s.stop := by
  unfold effF
  by_cases h0 : op = 0
  · rw [if_pos h0]
    rw [if_pos h0]
  rw [if_neg h0]
  by_cases h1 : op = 1
  · rw [if_pos h1]
    rw [if_neg h0]
  rw [if_neg h1]
  by_cases h2 : op = 2
  · rw [if_pos h2]
    rw [if_neg h0]
  rw [if_neg h2]
  by_cases h3 : op = 3
  · rw [if_pos h3]
    rw [if_neg h0]
  rw [if_neg h3]
  by_cases h4 : op = 4
  · rw [if_pos h4]
    rw [if_neg h0]
  rw [if_neg h4]
  by_cases h5 : op = 5
  · rw [if_pos h5]
    rw [if_neg h0]
  rw [if_neg h5]
  by_cases h16 : op = 16
  · rw [if_pos h16]
    rw [if_neg h0]
  rw [if_neg h16]
  by_cases h17 : op = 17
  · rw [if_pos h17]
    rw [if_neg h0]
    by_cases hb : b = 0
    · simp only [hb, if_true]
    · simp only [hb, if_false]
  rw [if_neg h17]
  by_cases h18 : op = 18
  · rw [if_pos h18]
    rw [if_neg h0]
  rw [if_neg h18]
  by_cases h19 : op = 19
  · rw [if_pos h19]
    rw [if_neg h0]
  rw [if_neg h19]
  by_cases h20 : op = 20
  · rw [if_pos h20]
    rw [if_neg h0]
  rw [if_neg h20]
  by_cases h21 : op = 21
  · rw [if_pos h21]
    rw [if_neg h0]
  rw [if_neg h21]
  by_cases h22 : op = 22
  · rw [if_pos h22]
    rw [if_neg h0]
    cases hin : s.input with
    | nil => rfl
    | cons x r => rfl
  rw [if_neg h22]
  by_cases h23 : op = 23
  · rw [if_pos h23]
    rw [if_neg h0]
  rw [if_neg h23]
  rw [if_neg h0]
theorem run_one (s : St) : (runF 1 s).1 = if s.stop = 0 then stepF s else s := by
  unfold runF
  split <;> simp [runF]
theorem stop_law (s : St) (h1 : (runF 1 s).1.stop ≠ 1) (h0 : (runF 1 s).1.stop ≠ 0) : { (runF 1 s).1 with stop := s.stop } = s := by
  rw [run_one] at h1 h0 ⊢
  by_cases hs : s.stop = 0
  · rw [if_pos hs] at h1 h0 ⊢
    by_cases hz : stopOf s = 0
    · exfalso
      unfold stepF at h1 h0
      rw [if_pos hz] at h1 h0
      simp only [eff_stop] at h1 h0
      split at h1 <;> simp_all
    · unfold stepF
      rw [if_neg hz]
  · rw [if_neg hs]
theorem stop_zero (s : St) (h0 : (runF 1 s).1.stop = 0) : s.stop = 0 := by
  rw [run_one] at h0
  by_cases hs : s.stop = 0
  · exact hs
  · rw [if_neg hs] at h0; exact h0
end Go.Proofs.YtpooedfchjpndaaDoor
