import Derived.Test.YtpooedfchjpndaaDoorShell
import Derived.Test.YtpooedfchjpndaaDoorStep1
namespace Go.Proofs.YtpooedfchjpndaaDoor
open Go Go.RowKit Go.WideShapes Go.ChangeShapes
theorem cells28 : Tryd.prog.cellsOf 28 = 39 := by kernel_rfl
theorem cells26 : Tryd.prog.cellsOf 26 = 32 := by kernel_rfl
theorem cells22 : Tryd.prog.cellsOf 22 = 1 := by kernel_rfl
theorem cells23 : Tryd.prog.cellsOf 23 = 1 := by kernel_rfl
theorem cells24 : Tryd.prog.cellsOf 24 = 1 := by kernel_rfl
theorem cells25 : Tryd.prog.cellsOf 25 = 1 := by kernel_rfl
theorem cells5 : Tryd.prog.cellsOf 5 = 1 := by kernel_rfl
theorem cells3 : Tryd.prog.cellsOf 3 = 1 := by kernel_rfl
theorem take_one {cs : List Value} {i : Nat} (h : i < cs.length) : (cs.drop i).take 1 = [cs[i]] := by
  rw [List.drop_eq_getElem_cons h]; rfl
section
variable {H : Type} {enc : TypeId × Value → H}
theorem open_state {W : World} {base : Nat} {sp : Nat → Bool} {hd : Bool} {r : Reach} {b0 : Nat} {v : Value} {d : DataW H} {p : List MemPlace} (hv : Value.okWide Tryd.prog W r b0 28 v) (h : DataW.Trod enc Tryd.prog W base sp hd 28 v d p) :
    ∃ cs s, v = .agg cs ∧ StIs W cs s := by
  obtain ⟨cs, rfl, hsz⟩ := okWide_struct Tryd.underlying28 hv
  rw [cells28] at hsz
  obtain ⟨fuel, hf⟩ := h
  obtain ⟨xs, n, _, _, _, hlen, hg⟩ := DataW.trod_struct Tryd.underlying28 hf
  have hl : cs.toList.length = 39 := by simpa using hsz
  have hcl : (Value.agg cs).cells.toList = cs.toList := by simp [Value.cells]
  rw [hcl] at hg
  have get : ∀ (j i : Nat) (hj : j < 39) (t : TypeId), Tryd.prog.cellsOf t = 1 → DataW.trod enc Tryd.prog W base sp hd n t ((cs.toList.drop j).take (Tryd.prog.cellsOf t)) = xs[i]? → i < 8 → ∃ x, DataW.trod enc Tryd.prog W base sp hd n t [cs[j]'(by omega)] = some x := by
    intro j i hj t hc he hi
    rw [hc, take_one (by omega), List.getElem?_eq_getElem (by rw [hlen]; exact hi)] at he
    exact ⟨_, by simpa using he⟩
  obtain ⟨x0, h0⟩ := get 0 0 (by omega) 22 cells22 (hg 0 _ rfl) (by omega)
  obtain ⟨x1, h1⟩ := get 1 1 (by omega) 3 cells3 (hg 1 _ rfl) (by omega)
  obtain ⟨x2, h2⟩ := get 2 2 (by omega) 23 cells23 (hg 2 _ rfl) (by omega)
  obtain ⟨x3, h3⟩ := get 3 3 (by omega) 24 cells24 (hg 3 _ rfl) (by omega)
  obtain ⟨x5, h5⟩ := get 36 5 (by omega) 22 cells22 (hg 5 _ rfl) (by omega)
  obtain ⟨x6, h6⟩ := get 37 6 (by omega) 22 cells22 (hg 6 _ rfl) (by omega)
  obtain ⟨x7, h7⟩ := get 38 7 (by omega) 3 cells3 (hg 7 _ rfl) (by omega)
  have hm : DataW.trod enc Tryd.prog W base sp hd n 26 ((cs.toList.drop 4).take (Tryd.prog.cellsOf 26)) = xs[4]? := hg 4 _ rfl
  rw [List.getElem?_eq_getElem (by rw [hlen]; decide)] at hm
  obtain ⟨ms, k, _, _, _, hml, hmg⟩ := DataW.trod_array Tryd.underlying26 hm
  have mem : ∀ i, i < 32 → ∃ x : Int, cs[4 + i]? = some (.int .u16 x) ∧ (Lit.int .u16 x).wf = true := by
    intro i hi
    have he := hmg i hi
    rw [cells25, cells26, Nat.mul_one, List.getElem?_eq_getElem (by rw [hml]; exact hi)] at he
    have ht : (((cs.toList.drop 4).take 32).drop i).take 1 = [cs[4 + i]'(by omega)] := by
      rw [take_one (by simp [hl]; omega)]
      simp
    have he' : DataW.trod enc Tryd.prog W base sp hd k 25 ((((cs.toList.drop 4).take 32).drop i).take 1) = some (ms[i]'(by omega)) := he
    rw [ht] at he'
    obtain ⟨x, hx, _, hw⟩ := DataW.trod_int Tryd.underlying25 he'
    injection hx with hx
    exact ⟨x, by rw [Array.getElem?_eq_getElem (by omega), hx], hw⟩
  obtain ⟨l0, s0, w0⟩ := slAt_trod Tryd.underlying22 Tryd.underlying5 cells5 h0
  obtain ⟨l2, s2, w2⟩ := slAt_trod Tryd.underlying23 Tryd.underlying25 cells25 h2
  obtain ⟨l3, s3, w3⟩ := slAt_trod Tryd.underlying24 Tryd.underlying3 cells3 h3
  obtain ⟨l5, s5, w5⟩ := slAt_trod Tryd.underlying22 Tryd.underlying5 cells5 h5
  obtain ⟨l6, s6, w6⟩ := slAt_trod Tryd.underlying22 Tryd.underlying5 cells5 h6
  obtain ⟨n1, e1, _, w1⟩ := DataW.trod_int Tryd.underlying3 h1
  obtain ⟨n7, e7, _, w7⟩ := DataW.trod_int Tryd.underlying3 h7
  injection e1 with e1
  injection e7 with e7
  have hf : ∃ f : Nat → Int, ∀ i, i < 32 → cs[4 + i]? = some (.int .u16 (f i)) ∧ (Lit.int .u16 (f i)).wf = true :=
    ⟨fun i => if hi : i < 32 then (mem i hi).choose else 0, fun i hi => by simp only [hi, dif_pos]; exact (mem i hi).choose_spec⟩
  obtain ⟨f, hf⟩ := hf
  refine ⟨cs, ⟨l0, n1, l2, l3, (List.range 32).map f, l5, l6, n7⟩, rfl, hsz, ?_, ?_, ?_, ?_, ?_, ?_, ?_, ?_, byt_wf w0, i64_wf w1, half_wf w2, fun x hx => i64_wf (w3 x hx), ?_, by simp, byt_wf w5, byt_wf w6, i64_wf w7⟩
  · rw [Array.getElem?_eq_getElem (by omega)]; exact s0
  · rw [Array.getElem?_eq_getElem (by omega), e1]
  · rw [Array.getElem?_eq_getElem (by omega)]; exact s2
  · rw [Array.getElem?_eq_getElem (by omega)]; exact s3
  · intro i hi
    rw [(hf i hi).1]
    simp [hi]
  · rw [Array.getElem?_eq_getElem (by omega)]; exact s5
  · rw [Array.getElem?_eq_getElem (by omega)]; exact s6
  · rw [Array.getElem?_eq_getElem (by omega), e7]
  · refine half_wf fun x hx => ?_
    obtain ⟨i, hi, rfl⟩ := List.mem_map.1 hx
    exact (hf i (by simpa using hi)).2
end
end Go.Proofs.YtpooedfchjpndaaDoor
