import Derived.Test.YtbaahbpianingaaDoorShell
import Derived.ChangeArms
namespace Go.Proofs.YtbaahbpianingaaDoor
open Go Go.RowKit Go.WideShapes Go.ChangeShapes
open Acc (Dk)
set_option maxRecDepth 100000
theorem cellsD : Tryd.prog.cellsOf 25 = 108 := by kernel_rfl
theorem cells22 : Tryd.prog.cellsOf 22 = 100 := by kernel_rfl
theorem cellsS : Tryd.prog.cellsOf 23 = 1 := by kernel_rfl
theorem cells5 : Tryd.prog.cellsOf 5 = 1 := by kernel_rfl
theorem cells3 : Tryd.prog.cellsOf 3 = 1 := by kernel_rfl
theorem cells4 : Tryd.prog.cellsOf 4 = 1 := by kernel_rfl
theorem take_one {cs : List Value} {i : Nat} (h : i < cs.length) : (cs.drop i).take 1 = [cs[i]] := by
  rw [List.drop_eq_getElem_cons h]; rfl
section
variable {H : Type} {enc : TypeId × Value → H}
theorem open_state {W : World} {base : Nat} {sp : Nat → Bool} {hd : Bool} {r : Reach} {b0 : Nat} {v : Value} {d : DataW H} {p : List MemPlace} (hv : Value.okWide Tryd.prog W r b0 25 v) (h : DataW.Trod enc Tryd.prog W base sp hd 25 v d p) :
    ∃ cs s, v = .agg cs ∧ DkIs W cs s := by
  obtain ⟨cs, rfl, hsz⟩ := okWide_struct Tryd.underlying25 hv
  rw [cellsD] at hsz
  obtain ⟨fuel, hf⟩ := h
  obtain ⟨xs, n, _, _, _, hlen, hg⟩ := DataW.trod_struct Tryd.underlying25 hf
  have hl : cs.toList.length = 108 := by simpa using hsz
  have hcl : (Value.agg cs).cells.toList = cs.toList := by simp [Value.cells]
  rw [hcl] at hg
  have get : ∀ (j i : Nat) (hj : j < 108) (t : TypeId), Tryd.prog.cellsOf t = 1 → DataW.trod enc Tryd.prog W base sp hd n t ((cs.toList.drop j).take (Tryd.prog.cellsOf t)) = xs[i]? → i < 9 → ∃ x, DataW.trod enc Tryd.prog W base sp hd n t [cs[j]'(by omega)] = some x := by
    intro j i hj t hc he hi
    rw [hc, take_one (by omega), List.getElem?_eq_getElem (by rw [hlen]; exact hi)] at he
    exact ⟨_, by simpa using he⟩
  obtain ⟨x1, h1⟩ := get 100 1 (by omega) 3 cells3 (hg 1 _ rfl) (by omega)
  obtain ⟨x2, h2⟩ := get 101 2 (by omega) 3 cells3 (hg 2 _ rfl) (by omega)
  obtain ⟨x3, h3⟩ := get 102 3 (by omega) 3 cells3 (hg 3 _ rfl) (by omega)
  obtain ⟨x4, h4⟩ := get 103 4 (by omega) 3 cells3 (hg 4 _ rfl) (by omega)
  obtain ⟨x5, h5⟩ := get 104 5 (by omega) 4 cells4 (hg 5 _ rfl) (by omega)
  obtain ⟨x6, h6⟩ := get 105 6 (by omega) 23 cellsS (hg 6 _ rfl) (by omega)
  obtain ⟨x7, h7⟩ := get 106 7 (by omega) 23 cellsS (hg 7 _ rfl) (by omega)
  obtain ⟨x8, h8⟩ := get 107 8 (by omega) 3 cells3 (hg 8 _ rfl) (by omega)
  have hm : DataW.trod enc Tryd.prog W base sp hd n 22 ((cs.toList.drop 0).take (Tryd.prog.cellsOf 22)) = xs[0]? := hg 0 _ rfl
  rw [List.getElem?_eq_getElem (by rw [hlen]; decide)] at hm
  obtain ⟨ms, k, _, _, _, hml, hmg⟩ := DataW.trod_array Tryd.underlying22 hm
  have mem : ∀ i, i < 100 → ∃ x : Int, cs[i]? = some (.int .i64 x) ∧ (Lit.int .i64 x).wf = true := by
    intro i hi
    have he := hmg i hi
    rw [cells3, cells22, Nat.mul_one, List.getElem?_eq_getElem (by rw [hml]; exact hi)] at he
    have ht : (((cs.toList.drop 0).take 100).drop i).take 1 = [cs[i]'(by omega)] := by
      rw [take_one (by simp [hl]; omega)]
      simp
    have he' : DataW.trod enc Tryd.prog W base sp hd k 3 ((((cs.toList.drop 0).take 100).drop i).take 1) = some (ms[i]'(by omega)) := he
    rw [ht] at he'
    obtain ⟨x, hx, _, hw⟩ := DataW.trod_int Tryd.underlying3 he'
    injection hx with hx
    exact ⟨x, by rw [Array.getElem?_eq_getElem (by omega), hx], hw⟩
  obtain ⟨l6, s6, w6⟩ := slAt_trod Tryd.underlying23 Tryd.underlying5 cells5 h6
  obtain ⟨l7, s7, w7⟩ := slAt_trod Tryd.underlying23 Tryd.underlying5 cells5 h7
  obtain ⟨n1, e1, _, w1⟩ := DataW.trod_int Tryd.underlying3 h1
  obtain ⟨n2, e2, _, w2⟩ := DataW.trod_int Tryd.underlying3 h2
  obtain ⟨n3, e3, _, w3⟩ := DataW.trod_int Tryd.underlying3 h3
  obtain ⟨n4, e4, _, w4⟩ := DataW.trod_int Tryd.underlying3 h4
  obtain ⟨n5, e5, _⟩ := DataW.trod_bool Tryd.underlying4 h5
  obtain ⟨n8, e8, _, w8⟩ := DataW.trod_int Tryd.underlying3 h8
  injection e1 with e1
  injection e2 with e2
  injection e3 with e3
  injection e4 with e4
  injection e5 with e5
  injection e8 with e8
  have hf : ∃ f : Nat → Int, ∀ i, i < 100 → cs[i]? = some (.int .i64 (f i)) ∧ (Lit.int .i64 (f i)).wf = true :=
    ⟨fun i => if hi : i < 100 then (mem i hi).choose else 0, fun i hi => by simp only [hi, dif_pos]; exact (mem i hi).choose_spec⟩
  obtain ⟨f, hf⟩ := hf
  have ca : ∀ (i : Nat) (hi : i < 108) (v : Value), cs[i]'(by omega) = v → cs[i]? = some v := fun i hi v h => by rw [Array.getElem?_eq_getElem (by omega), h]
  refine ⟨cs, ⟨(List.range 100).map f, n1, n2, n3, n4, n5, l6, l7, n8⟩, rfl, hsz, ?_, ca 100 (by omega) _ e1, ca 101 (by omega) _ e2, ca 102 (by omega) _ e3, ca 103 (by omega) _ e4, ca 104 (by omega) _ e5, ?_, ?_, ca 107 (by omega) _ e8, by simp, ?_, i64_wf w1, i64_wf w2, i64_wf w3, i64_wf w4, byt_wf w6, byt_wf w7, i64_wf w8⟩
  · intro i hi
    rw [(hf i hi).1]
    simp [hi]
  · rw [Array.getElem?_eq_getElem (by omega)]; exact s6
  · rw [Array.getElem?_eq_getElem (by omega)]; exact s7
  · intro x hx
    obtain ⟨i, hi, rfl⟩ := List.mem_map.1 hx
    exact i64_wf (hf i (by simpa using hi)).2
end
end Go.Proofs.YtbaahbpianingaaDoor
