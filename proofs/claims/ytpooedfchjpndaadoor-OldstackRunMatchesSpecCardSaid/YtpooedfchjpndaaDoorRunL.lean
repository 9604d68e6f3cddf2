import Derived.Test.YtpooedfchjpndaaDoorStart
namespace Go.Proofs.YtpooedfchjpndaaDoor
open Go Go.Proofs Go.RowKit
theorem foldl_sets : ∀ (l : List Value) (p : Nat) (acc : Array Value), p + l.length ≤ acc.size →
    ((l.zipIdx p).foldl (fun cs (x : Value × Nat) => cs.setIfInBounds (0 + x.2) x.1) acc).toList = acc.toList.take p ++ l ++ acc.toList.drop (p + l.length)
  | [], p, acc, h => by simp
  | v :: r, p, acc, h => by
    rw [List.zipIdx_cons, List.foldl_cons, foldl_sets r (p + 1) _ (by simp at h ⊢; omega)]
    simp only [List.length_cons] at h
    rw [Nat.zero_add, Array.toList_setIfInBounds]
    have hp : p < acc.toList.length := by rw [Array.length_toList]; omega
    rw [List.take_set, List.drop_set_of_lt (by omega), List.take_succ_eq_append_getElem hp]
    show (List.take p acc.toList ++ [acc.toList[p]]).set p v ++ r ++ List.drop (p + 1 + r.length) acc.toList = _
    rw [List.set_append_right _ _ (by simp; omega)]
    have : p - (acc.toList.take p).length = 0 := by simp; omega
    rw [this]
    simp only [List.set_cons_zero, List.append_assoc, List.cons_append, List.nil_append, List.length_cons]
    rw [Nat.add_assoc, Nat.add_comm 1 r.length]
theorem foldl_sets_all (cs z : Array Value) (h : z.size = cs.size) : cs.zipIdx.foldl (fun acc (x : Value × Nat) => acc.setIfInBounds (0 + x.2) x.1) z = cs := by
  apply Array.toList_inj.1
  rw [← Array.foldl_toList, Array.toList_zipIdx, foldl_sets cs.toList 0 z (by simp [h])]
  simp [h]
theorem run_build_machine (cs : Array Value) (h : cs.size = 39) (w : World) : (Instr.build 53 #[(0, .agg cs)]).run Tryd.prog w = .ok (.agg cs) w := by
  have hz : ∃ z, (zeroValue 53).run Tryd.prog w = .ok (.agg z) w ∧ z.size = 39 := ⟨zeroSt, by kernel_rfl, by decide⟩
  obtain ⟨z, hz, hzs⟩ := hz
  have hs : (sizeOf 28).run Tryd.prog w = .ok 39 w := by kernel_rfl
  simp only [Instr.build, Sem.run_bind, hz, Result.andThen_ok, run_underlying Tryd.underlying53]
  simp [Value.cells, hs, Instr.fill, h, hzs]
  have := foldl_sets_all cs z (by omega)
  simp only [Nat.zero_add] at this
  rw [show (39 : Nat) = cs.zipIdx.size from by simp [h]]
  exact this
end Go.Proofs.YtpooedfchjpndaaDoor
