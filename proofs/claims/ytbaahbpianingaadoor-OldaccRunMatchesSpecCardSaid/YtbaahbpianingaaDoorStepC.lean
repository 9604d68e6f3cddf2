import Derived.Test.YtbaahbpianingaaDoorStepA
import Derived.Test.YtbaahbpianingaaDoorStepB1
import Derived.Test.YtbaahbpianingaaDoorStepB2
import Derived.Test.YtbaahbpianingaaDoorStepB3
import Derived.Test.YtbaahbpianingaaDoorStepB4
import Derived.Test.YtbaahbpianingaaDoorStepB5
namespace Go.Proofs.YtbaahbpianingaaDoor
open Go Go.Proofs Go.RowKit
open Acc (Dk red five)
section
variable {w : World} {bm : Nat} {s : Dk} {cs : Array Value} {vo : Value}
theorem stop_with {n : Int} (he : Acc.stopF s = n) (hn : n ≠ 0) : Acc.stepF s = { s with stop := n } := by
  unfold Acc.stepF
  rw [he, if_neg hn]
theorem step_with (he : Acc.stopF s = 0) {K : Int} {a : Nat} (ho : Acc.opF s = K) (ha : Acc.addrF s = a) : Acc.stepF s = Acc.effF { s with at_ := s.at_ + 1 } K a := by
  unfold Acc.stepF
  rw [he, if_pos rfl, ho, ha]
theorem step_all (h : MachIs w bm s cs vo) (ok : OkSt s) (ht : Tabs w) (hb8 : 2 ≤ bm) : Calls Tryd.prog 44 #[.pointer (some ⟨bm, 0, none⟩)] w (EffPost w bm (Acc.stepF s)) := by
  by_cases c1 : s.at_ = 100
  · have he : Acc.stopF s = 3 := by unfold Acc.stopF; rw [if_pos c1]
    rw [stop_with he (by decide)]
    exact stop_at h c1
  have hat := ok.ok.at_
  obtain ⟨i, hi0⟩ : ∃ i : Nat, s.at_ = i := ⟨s.at_.toNat, by omega⟩
  have hi : i < 100 := by omega
  obtain ⟨W, hW⟩ : ∃ W, Acc.wordAt s s.at_ = W := ⟨_, rfl⟩
  have hw : Acc.wordAt s i = W := by rw [← hi0]; exact hW
  have w5 := Acc.five_iff.1 (Acc.word_five ok.ok s.at_)
  rw [hW] at w5
  by_cases c2 : W < 0 ∨ 20000 ≤ W ∨ 18 ≤ Acc.opF s
  · have he : Acc.stopF s = 2 := by unfold Acc.stopF; rw [if_neg c1, hW, if_pos c2]
    rw [stop_with he (by decide)]
    refine stop_bad h i hi hi0 W hw w5 ?_
    by_cases q1 : W < 0
    · exact .inl q1
    by_cases q2 : 20000 ≤ W
    · exact .inr (.inl q2)
    refine .inr (.inr ⟨by omega, by omega, ?_⟩)
    have h18 : 18 ≤ Acc.opF s := by omega
    unfold Acc.opF at h18
    rw [hW, Int.tdiv_eq_ediv_of_nonneg (by omega), Int.tmod_eq_emod_of_nonneg (by omega)] at h18
    exact h18
  have w0 : 0 ≤ W := by omega
  have w1 : W < 20000 := by omega
  have hop : Acc.opF s = W / 100 % 100 := by
    unfold Acc.opF
    rw [hW, Int.tdiv_eq_ediv_of_nonneg w0, Int.tmod_eq_emod_of_nonneg (by omega)]
  have hlt : W / 100 % 100 < 18 := by rw [← hop]; omega
  obtain ⟨r, hr⟩ : ∃ r : Nat, W % 100 = r := ⟨(W % 100).toNat, by omega⟩
  obtain ⟨z, hz⟩ : ∃ z, Acc.addrF s = z := ⟨_, rfl⟩
  have hA : W < 10000 ∧ (r : Int) = z ∨ 10000 ≤ W ∧ (r : Int) + s.x = z := by
    have hz2 := hz
    unfold Acc.addrF at hz2
    rw [hW, Int.tmod_eq_emod_of_nonneg w0, hr] at hz2
    by_cases q : 10000 ≤ W
    · rw [if_pos q] at hz2; exact .inr ⟨q, hz2⟩
    · rw [if_neg q] at hz2; exact .inl ⟨by omega, by omega⟩
  by_cases c3 : z < 0 ∨ 100 ≤ z
  · have he : Acc.stopF s = 3 := by unfold Acc.stopF; rw [if_neg c1, hW, if_neg c2, hz, if_pos c3]
    rw [stop_with he (by decide)]
    exact stop_addr h ok i hi hi0 W hw r z w0 w1 hlt hr hA c3
  obtain ⟨a, rfl⟩ : ∃ a : Nat, z = a := ⟨z.toNat, by omega⟩
  have ha : a < 100 := by omega
  by_cases c4 : Acc.opF s = 6 ∧ Acc.wordAt s a = 0
  · have he : Acc.stopF s = 6 := by unfold Acc.stopF; rw [if_neg c1, hW, if_neg c2, hz, if_neg c3, if_pos c4]
    rw [stop_with he (by decide)]
    exact stop_div h ok i hi hi0 W hw a ha r w0 w1 (by rw [← hop]; exact c4.1) hr hA c4.2
  have ho := ok.ok.output
  by_cases c5 : Acc.opF s = 14 ∧ 1000 < s.output.length + (Acc.lineF s.a).length
  · have he : Acc.stopF s = 7 := by unfold Acc.stopF; rw [if_neg c1, hW, if_neg c2, hz, if_neg c3, if_neg c4, if_pos c5]
    rw [stop_with he (by decide)]
    exact stop_full h ok ht i hi hi0 W hw a ha r w0 w1 (by rw [← hop]; exact c5.1) hr hA ho c5.2
  have he : Acc.stopF s = 0 := by unfold Acc.stopF; rw [if_neg c1, hW, if_neg c2, hz, if_neg c3, if_neg c4, if_neg c5]
  have hA2 : W < 10000 ∧ r = a ∨ 10000 ≤ W ∧ (r : Int) + s.x = a := by omega
  have h18 : Acc.opF s = 0 ∨ Acc.opF s = 1 ∨ Acc.opF s = 2 ∨ Acc.opF s = 3 ∨ Acc.opF s = 4 ∨ Acc.opF s = 5 ∨ Acc.opF s = 6 ∨ Acc.opF s = 7 ∨ Acc.opF s = 8 ∨ Acc.opF s = 9 ∨ Acc.opF s = 10 ∨ Acc.opF s = 11 ∨ Acc.opF s = 12 ∨ Acc.opF s = 13 ∨ Acc.opF s = 14 ∨ Acc.opF s = 15 ∨ Acc.opF s = 16 ∨ Acc.opF s = 17 := by omega
  rcases h18 with h18 | h18 | h18 | h18 | h18 | h18 | h18 | h18 | h18 | h18 | h18 | h18 | h18 | h18 | h18 | h18 | h18 | h18
  · rw [step_with he h18 hz]; exact step_op0 h ok i r a hi hi0 W hw w0 w1 (by rw [← hop]; exact h18) hr ha hA2
  · rw [step_with he h18 hz]; exact step_op1 h ok i r a hi hi0 W hw w0 w1 (by rw [← hop]; exact h18) hr ha hA2
  · rw [step_with he h18 hz]; exact step_op2 h ok i r a hi hi0 W hw w0 w1 (by rw [← hop]; exact h18) hr ha hA2
  · rw [step_with he h18 hz]; exact step_op3 h ok i r a hi hi0 W hw w0 w1 (by rw [← hop]; exact h18) hr ha hA2
  · rw [step_with he h18 hz]; exact step_op4 h ok i r a hi hi0 W hw w0 w1 (by rw [← hop]; exact h18) hr ha hA2
  · rw [step_with he h18 hz]; exact step_op5 h ok i r a hi hi0 W hw w0 w1 (by rw [← hop]; exact h18) hr ha hA2
  · rw [step_with he h18 hz]; exact step_op6 h ok i r a hi hi0 W hw w0 w1 (by rw [← hop]; exact h18) hr ha hA2 (fun q => c4 ⟨h18, q⟩)
  · rw [step_with he h18 hz]; exact step_op7 h ok i r a hi hi0 W hw w0 w1 (by rw [← hop]; exact h18) hr ha hA2
  · rw [step_with he h18 hz]; exact step_op8 h ok i r a hi hi0 W hw w0 w1 (by rw [← hop]; exact h18) hr ha hA2
  · rw [step_with he h18 hz]; exact step_op9 h ok i r a hi hi0 W hw w0 w1 (by rw [← hop]; exact h18) hr ha hA2
  · rw [step_with he h18 hz]; exact step_op10 h ok i r a hi hi0 W hw w0 w1 (by rw [← hop]; exact h18) hr ha hA2
  · rw [step_with he h18 hz]; exact step_op11 h ok i r a hi hi0 W hw w0 w1 (by rw [← hop]; exact h18) hr ha hA2
  · rw [step_with he h18 hz]; exact step_op12 h ok i r a hi hi0 W hw w0 w1 (by rw [← hop]; exact h18) hr ha hA2
  · rw [step_with he h18 hz]; exact step_op13 h ok i r a hi hi0 W hw w0 w1 (by rw [← hop]; exact h18) hr ha hA2
  · rw [step_with he h18 hz]; exact step_op14 h ok ht hb8 i r a hi hi0 W hw w0 w1 (by rw [← hop]; exact h18) hr ha hA2 (Nat.le_of_not_lt fun q => c5 ⟨h18, q⟩)
  · rw [step_with he h18 hz]; exact step_op15 h ok i r a hi hi0 W hw w0 w1 (by rw [← hop]; exact h18) hr ha hA2
  · rw [step_with he h18 hz]; exact step_op16 h ok i r a hi hi0 W hw w0 w1 (by rw [← hop]; exact h18) hr ha hA2
  · rw [step_with he h18 hz]; exact step_op17 h ok i r a hi hi0 W hw w0 w1 (by rw [← hop]; exact h18) hr ha hA2
end
end Go.Proofs.YtbaahbpianingaaDoor
