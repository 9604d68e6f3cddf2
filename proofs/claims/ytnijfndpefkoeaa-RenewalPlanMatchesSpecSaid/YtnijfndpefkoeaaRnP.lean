import Derived.Test.YtnijfndpefkoeaaRnA
import Derived.Test.YtnijfndpefkoeaaRenS
namespace Go.Proofs.Ytnijfndpefkoeaa
open Go Go.Proofs Go.RowKit
set_option maxRecDepth 100000
/-- A medium (made, life): its window, whether it is valid, the first fault of media. -/
def winF (p : Int × Int) : Int × Int := (p.1 + p.2 - p.2 / 2, p.1 + p.2)
def okM (p : Int × Int) : Bool := inB p.1 0 9999 && inB p.2 1 1000
theorem okM_iff {p : Int × Int} : okM p = true ↔ (0 ≤ p.1 ∧ p.1 ≤ 9999) ∧ (1 ≤ p.2 ∧ p.2 ≤ 1000) := by simp [okM, inB]
def scanM : Nat → List (Int × Int) → Int × Int
  | _, [] => (0, 0)
  | i, p :: rest => if okM p = false then (4, (i : Int)) else scanM (i + 1) rest
def faultM (L : List (Int × Int)) : Int × Int := if 60 < L.length then (2, -1) else scanM 0 L
theorem scanM_step {L : List (Int × Int)} {k : Nat} {p : Int × Int} (h : L[k]? = some p) : scanM k (L.drop k) = if okM p = false then (4, (k : Int)) else scanM (k + 1) (L.drop (k + 1)) := by
  obtain ⟨h1, h2⟩ := List.getElem?_eq_some_iff.1 h
  rw [List.drop_eq_getElem_cons h1, h2]
  rfl
theorem scanM_end {L : List (Int × Int)} {k : Nat} (h : L.length ≤ k) : scanM k (L.drop k) = (0, 0) := by rw [List.drop_eq_nil_of_le h]; rfl
theorem scanM_code : ∀ (L : List (Int × Int)) (k : Nat), (scanM k L).1 = 0 → scanM k L = (0, 0)
  | [], _, _ => rfl
  | p :: L, k, h => by
    rw [scanM] at h ⊢
    split
    · rename_i q; rw [if_pos q] at h; cases h
    · rename_i q; rw [if_neg q] at h; exact scanM_code L (k + 1) h
theorem faultM_code {L : List (Int × Int)} (h : (faultM L).1 = 0) : faultM L = (0, 0) := by
  unfold faultM at h ⊢
  split
  · rename_i q; rw [if_pos q] at h; cases h
  · rename_i q; rw [if_neg q] at h; exact scanM_code L 0 h
theorem scanM_ok : ∀ (L : List (Int × Int)) (k : Nat), scanM k L = (0, 0) → ∀ p ∈ L, okM p = true
  | [], _, _, p, hp => by simp at hp
  | q :: L, k, h, p, hp => by
    rw [scanM] at h
    split at h
    · simp at h
    · rename_i h1
      rcases List.mem_cons.1 hp with e | e
      · subst e; simpa using h1
      · exact scanM_ok L (k + 1) h p e
theorem faultM_ok {L : List (Int × Int)} (h : faultM L = (0, 0)) : L.length ≤ 60 ∧ ∀ p ∈ L, okM p = true := by
  unfold faultM at h
  split at h
  · simp at h
  · exact ⟨by omega, scanM_ok _ _ h⟩
theorem win_prog {p : Int × Int} (h : okM p = true) : p.1 + (p.2 + 1).tdiv 2 = (winF p).1 := by
  have := okM_iff.1 h
  unfold winF
  rw [Int.tdiv_eq_ediv_of_nonneg (by omega)]
  simp only
  omega
theorem win_low {p : Int × Int} (h : okM p = true) : 0 ≤ (winF p).1 ∧ (winF p).1 ≤ (winF p).2 ∧ (winF p).1 ≤ 11000 ∧ (winF p).2 ≤ 11000 := by
  have := okM_iff.1 h
  unfold winF
  simp only
  omega
def wsF (L : List (Int × Int)) : List (Int × Int) := L.map winF
theorem ws_len (L : List (Int × Int)) : (wsF L).length = L.length := List.length_map _
theorem ws_at {L : List (Int × Int)} {i : Nat} {p : Int × Int} (h : L[i]? = some p) : Ren.A (wsF L) i = (winF p).1 ∧ Ren.B (wsF L) i = (winF p).2 := by
  unfold Ren.A Ren.B wsF
  rw [List.getElem?_map, h]
  exact ⟨rfl, rfl⟩
theorem ws_ok {L : List (Int × Int)} (h : ∀ p ∈ L, okM p = true) : Ren.Ok2 (wsF L) := by
  have key : ∀ i, i < (wsF L).length → 0 ≤ Ren.A (wsF L) i ∧ Ren.A (wsF L) i ≤ Ren.B (wsF L) i ∧ Ren.A (wsF L) i ≤ 11000 := by
    intro i hi
    rw [ws_len] at hi
    obtain ⟨a, b⟩ := ws_at (List.getElem?_eq_getElem hi)
    have := win_low (h _ (List.getElem_mem hi))
    rw [a, b]
    omega
  exact ⟨⟨fun i hi => (key i hi).1, fun i hi => (key i hi).2.1⟩, fun i hi => by have := (key i hi).2.2; omega⟩
end Go.Proofs.Ytnijfndpefkoeaa
