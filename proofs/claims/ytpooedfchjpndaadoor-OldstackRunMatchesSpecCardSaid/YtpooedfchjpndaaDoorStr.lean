import Derived.Test.YtpooedfchjpndaaDoorLeaf
namespace Go.Proofs.YtpooedfchjpndaaDoor
open Go Go.Proofs Go.RowKit
set_option maxHeartbeats 400000
theorem info5 : (Tryd.prog.info? 5).map (fun i => (i.zero, i.size, i.bytes)) = some (some (.int .u8 0), 1, 1) := by kernel_rfl
theorem info25 : (Tryd.prog.info? 25).map (fun i => (i.zero, i.size, i.bytes)) = some (some (.int .u16 0), 1, 2) := by kernel_rfl
theorem info3 : (Tryd.prog.info? 3).map (fun i => (i.zero, i.size, i.bytes)) = some (some (.int .i64 0), 1, 8) := by kernel_rfl
theorem SameBytes_c (A B : Option Addr) (l m : List Int) (c d : Nat) (w : World) (h1 : Sl w .u8 A l) (h2 : Sl w .u8 B m) (b1 : Byt l) (b2 : Byt m) :
    Calls Tryd.prog 17 #[.slice A l.length c, .slice B m.length d] w fun e w' => e = .returned (.bool (decide (l = m))) ∧ w = w' := by
  have k1 := h1.conv (P := Tryd.prog) 22 5 9 Tryd.underlying22 Tryd.underlying5 Tryd.underlying9 c
  have k2 := h2.conv (P := Tryd.prog) 22 5 9 Tryd.underlying22 Tryd.underlying5 Tryd.underlying9 d
  go_enter Tryd.func17, Tryd.ntmps17
  go_wp2
  go_ret
  exact ⟨ret_bool (strOfNums_beq b1 b2), rfl⟩
theorem Begins_c (A B : Option Addr) (l m : List Int) (c d : Nat) (w : World) (hlc : l.length ≤ c) (_hc : c ≤ maxLen) (hm : m.length ≤ maxLen) (h1 : Sl w .u8 A l) (h2 : Sl w .u8 B m) (b1 : Byt l) (b2 : Byt m) :
    Calls Tryd.prog 18 #[.slice A l.length c, .slice B m.length d] w fun e w' => e = .returned (.bool (decide (l.take m.length = m))) ∧ ∃ n, w' = w.drewN n := by
  unfold maxLen at _hc hm
  have k2 := fun n => (h2.drewN n).conv (P := Tryd.prog) 22 5 9 Tryd.underlying22 Tryd.underlying5 Tryd.underlying9 d
  by_cases hlt : m.length ≤ l.length
  · have h3 : Sl w .u8 A (l.take m.length) := by
      refine Sl.mk fun i x hx => ?_
      rw [List.getElem?_take] at hx
      split at hx
      · exact h1.one hx
      · cases hx
    have k1 := fun n => (h3.drewN n).conv (P := Tryd.prog) 22 5 9 Tryd.underlying22 Tryd.underlying5 Tryd.underlying9 c
    simp only [List.length_take, Nat.min_eq_left hlt] at k1
    obtain ⟨i0, hi, hz0, hz1, hz2⟩ := info_parts info5
    have k3 : ∀ n, (Instr.slice 22 (.slice A l.length c) none (some (.int .i64 (m.length : Int))) none).run Tryd.prog (w.drewN n) = .ok (.slice A m.length c) (w.drewN n) := fun n => run_slice_to (w.drewN n) 22 5 i0 Tryd.underlying22 hi A l.length c m.length .i64 (by omega)
    have hd : decide (m.length ≤ l.length) = true := by simpa using hlt
    have hd2 : decide ((m.length : Int) ≤ (l.length : Int)) = true := by simpa using hlt
    go_enter Tryd.func18, Tryd.ntmps18
    go_wp2
    go_quiet (fail)
    go_wp2
    go_ret
    refine ⟨ret_bool (strOfNums_beq (fun x hx => b1 x (List.mem_of_mem_take hx)) b2), _, rfl⟩
  · have hd : decide (m.length ≤ l.length) = false := by simpa using hlt
    have hd2 : decide ((m.length : Int) ≤ (l.length : Int)) = false := by simp; omega
    go_enter Tryd.func18, Tryd.ntmps18
    go_wp2
    go_quiet (fail)
    go_wp2
    go_ret
    refine ⟨ret_bool ?_, _, rfl⟩
    symm
    rw [decide_eq_false_iff_not]
    intro h
    have := congrArg List.length h
    simp at this
    omega
end Go.Proofs.YtpooedfchjpndaaDoor
