import Derived.Test.YtbaahbpianingaaDoorLeaf
namespace Go.Proofs.YtbaahbpianingaaDoor
open Go Go.Proofs Go.RowKit
open Acc (Dk red five)
set_option maxHeartbeats 1000000
set_option maxRecDepth 100000
theorem info_parts {P : Program} {t : TypeId} {z : Value} {a b : Nat} (h : (P.info? t).map (fun i => (i.zero, i.size, i.bytes)) = some (some z, a, b)) : ∃ i, P.info? t = some i ∧ i.zero = some z ∧ i.size = a ∧ i.bytes = b := by
  cases hq : P.info? t with
  | none => rw [hq] at h; cases h
  | some i =>
    rw [hq] at h
    simp only [Option.map_some, Option.some.injEq, Prod.mk.injEq] at h
    exact ⟨i, rfl, h.1, h.2.1, h.2.2⟩
theorem infoB : (Tryd.prog.info? 5).map (fun i => (i.zero, i.size, i.bytes)) = some (some (.int .u8 0), 1, 1) := by kernel_rfl
theorem infoI : (Tryd.prog.info? 3).map (fun i => (i.zero, i.size, i.bytes)) = some (some (.int .i64 0), 1, 8) := by kernel_rfl
theorem add_add (a : Addr) (i j : Nat) : (a.add i).add j = a.add (i + j) := by
  unfold Addr.add
  by_cases hi : i = 0 <;> by_cases hj : j = 0 <;> simp [hi, hj, Nat.add_assoc]
section
variable {w : World} {bm : Nat} {s : Dk} {cs : Array Value} {vo : Value}
theorem MachIs.cAt (h : MachIs w bm s cs vo) : w.cell? ⟨bm, 100, none⟩ = some (.int .i64 s.at_) := by rw [h.cell, h.at_]
theorem MachIs.cA (h : MachIs w bm s cs vo) : w.cell? ⟨bm, 101, none⟩ = some (.int .i64 s.a) := by rw [h.cell, h.a]
theorem MachIs.cQ (h : MachIs w bm s cs vo) : w.cell? ⟨bm, 102, none⟩ = some (.int .i64 s.q) := by rw [h.cell, h.q]
theorem MachIs.cX (h : MachIs w bm s cs vo) : w.cell? ⟨bm, 103, none⟩ = some (.int .i64 s.x) := by rw [h.cell, h.x]
theorem MachIs.cOv (h : MachIs w bm s cs vo) : w.cell? ⟨bm, 104, none⟩ = some (.bool s.ov) := by rw [h.cell, h.ov]
theorem MachIs.cStop (h : MachIs w bm s cs vo) : w.cell? ⟨bm, 107, none⟩ = some (.int .i64 s.stop) := by rw [h.cell, h.stop]
theorem MachIs.cWord (h : MachIs w bm s cs vo) {i : Nat} (hi : i < 100) : w.cell? ⟨bm, i, none⟩ = some (.int .i64 (s.words[i]?.getD 0)) := by rw [h.cell, h.words i hi]
theorem sum_c (h : MachIs w bm s cs vo) (a b : Int) (ha : five a = true) (hb : five b = true) :
    Calls Tryd.prog 97 #[.pointer (some ⟨bm, 0, none⟩), .int .i64 a, .int .i64 b] w fun e w' => e = .returned (.int .i64 (Acc.sumF s a b).1) ∧ w' = w.setCell ⟨bm, 104, none⟩ (.bool (Acc.sumF s a b).2) := by
  have a1 := Acc.five_iff.1 ha
  have b1 := Acc.five_iff.1 hb
  have hw : IntKind.i64.wrap (a + b) = a + b := IntWalk.i64_in _ (by omega)
  have k1 := h.cOv
  have k2 := h.frozen 104
  have hlt := h.lt
  have HC := Lib.hid (reduce_c (a + b))
  unfold Acc.sumF
  generalize s.ov = ov at *
  clear h ha hb
  cases ov with
  | true =>
    go_enter Tryd.func97, Tryd.ntmps97
    go_wp2_with (go_at_call 100; refine (HC.out _).mono ?_; rintro e w' ⟨rfl, rfl⟩)
    go_ret
    exact ⟨rfl, rfl⟩
  | false =>
    cases hd : decide (red (a + b) ≠ a + b) with
    | true =>
      have hd' : (red (a + b) != a + b) = true := by simpa using hd
      go_enter Tryd.func97, Tryd.ntmps97
      go_wp2_with (go_at_call 100; refine (HC.out _).mono ?_; rintro e w' ⟨rfl, rfl⟩)
      go_ret
      exact ⟨rfl, rfl⟩
    | false =>
      have hd' : (red (a + b) != a + b) = false := by simpa using hd
      go_enter Tryd.func97, Tryd.ntmps97
      go_wp2_with (go_at_call 100; refine (HC.out _).mono ?_; rintro e w' ⟨rfl, rfl⟩)
      go_ret
      exact ⟨rfl, rfl⟩
theorem jump_c (h : MachIs w bm s cs vo) (a : Int) (b : Bool) :
    Calls Tryd.prog 103 #[.pointer (some ⟨bm, 0, none⟩), .int .i64 a, .bool b] w fun e w' => e = .returned (.tuple #[]) ∧ w' = if b then w.setCell ⟨bm, 100, none⟩ (.int .i64 a) else w := by
  have k1 := h.cAt
  have k2 := h.frozen 100
  have hlt := h.lt
  clear h
  cases b with
  | true =>
    go_enter Tryd.func103, Tryd.ntmps103
    go_wp2
    refine bodyPost_end (results_none Tryd.results103 _ _ _) rfl ?_
    exact ⟨rfl, rfl⟩
  | false =>
    go_enter Tryd.func103, Tryd.ntmps103
    go_wp2
    refine bodyPost_end (results_none Tryd.results103 _ _ _) rfl ?_
    exact ⟨rfl, rfl⟩
/-- What read gives and leaves. -/
def ReadPost (w : World) (bm : Nat) (s : Dk) (vo : Value) (e : Ending) (w' : World) : Prop :=
  (s.input = [] ∧ e = .returned (.int .i64 (-1)) ∧ w' = w) ∨ ∃ x r v', s.input = x :: r ∧ e = .returned (.int .i64 x) ∧ w' = w.setCell ⟨bm, 105, none⟩ v' ∧ SlFAt w .u8 (some v') r (Bad bm vo)
theorem read_c (h : MachIs w bm s cs vo) (hb8 : Byt s.input) : Calls Tryd.prog 110 #[.pointer (some ⟨bm, 0, none⟩)] w (ReadPost w bm s vo) := by
  obtain ⟨i0, hi, hz0, hz1, hz2⟩ := info_parts infoB
  obtain ⟨A, c, e1, e2, e3, e4, e5⟩ := h.input
  have k1 : w.cell? ⟨bm, 105, none⟩ = some (.slice A s.input.length c) := by rw [h.cell, e1]
  have k2 := h.frozen 105
  have hlt := h.lt
  unfold ReadPost
  cases hin : s.input with
  | nil =>
    rw [hin] at k1
    simp only [List.length_nil] at k1
    clear hin e1 e2 e5 h
    go_enter Tryd.func110, Tryd.ntmps110
    go_wp2
    go_ret
    exact .inl ⟨by trivial, rfl, rfl⟩
  | cons x r =>
    rw [hin] at k1 e2 e5 hb8
    have hs : Sl w .u8 A (x :: r) := e5.sl
    obtain ⟨bb, oo, rfl, hcell⟩ := hs.at_ (i := 0) (by simp)
    simp only [Nat.add_zero, List.getElem?_cons_zero, Option.getD_some] at hcell
    have hx := hb8 x (by simp)
    have hw : IntKind.i64.wrap x = x := IntWalk.i64_in _ (by omega)
    have ks : ∀ W : World, (Instr.slice 23 (.slice (some ⟨bb, oo, none⟩) (x :: r).length c) (some (.int .i64 1)) none none).run Tryd.prog W = .ok (.slice (if c = 1 then some ⟨bb, oo, none⟩ else (some (⟨bb, oo, none⟩ : Addr)).map (·.add 1)) ((x :: r).length - 1) (c - 1)) W := fun W =>
      run_slice_from1 W 23 5 i0 Tryd.underlying23 hi hz1 (some ⟨bb, oo, none⟩) (x :: r).length c .i64 (by simp)
    obtain ⟨A', hA'⟩ : ∃ A', (if c = 1 then some ⟨bb, oo, none⟩ else (some (⟨bb, oo, none⟩ : Addr)).map (·.add 1)) = A' := ⟨_, rfl⟩
    rw [hA'] at ks
    simp only [List.length_cons, Nat.add_sub_cancel] at ks k1 e2
    have hrow : SlFAt w .u8 (some (.slice A' r.length (c - 1))) r (Bad bm vo) := by
      refine ⟨A', c - 1, rfl, by omega, by omega, ?_, ?_⟩
      · intro hn; rw [← hA'] at hn; split at hn <;> simp at hn
      · intro i u hu
        have := e5 (i + 1) u (by simpa using hu)
        obtain ⟨ad, h1, h2, h3⟩ := this
        cases h1
        have hc1 : c ≠ 1 := by
          have : i < r.length := by
            rcases Nat.lt_or_ge i r.length with hl | hl
            · exact hl
            · simp [List.getElem?_eq_none (show (r.map (Value.int .u8)).length ≤ i by simpa using hl)] at hu
          omega
        rw [if_neg hc1] at hA'
        refine ⟨_, hA'.symm, ?_, ?_⟩
        · rw [add_add, Nat.add_comm 1 i]; exact h2
        · rw [block_add]; exact h3
    have HROW := Lib.hid hrow
    clear hrow hs e5 h hA' hin e1 e2 e3 e4
    go_enter Tryd.func110, Tryd.ntmps110
    go_wp2
    go_ret
    exact .inr ⟨x, r, _, rfl, rfl, rfl, HROW.out⟩
end
theorem shift_c (a : Nat) (w : World) (ha : a < 100) : Calls Tryd.prog 113 #[.int .i64 (a : Int)] w fun e w' => e = .returned (.int .i64 (Acc.shiftF (a : Int))) ∧ w = w' := by
  rw [Acc.shiftF_nat]
  by_cases h5 : 5 < a
  · rw [Nat.min_eq_right (by omega)]
    go_enter Tryd.func113, Tryd.ntmps113
    go_wp2
    go_loop [3, 6] (fun n i => ∃ k : Nat, k ≤ 5 ∧ i = .int .i64 k ∧ n = .int .i64 ((10 ^ k : Nat) : Int)) (fun _ i => 5 - (intOf i).toNat)
    case atStart => exact ⟨0, Nat.zero_le _, rfl, rfl⟩
    case round =>
      obtain ⟨k, hk, rfl, rfl⟩ := hrel
      by_cases hlt : k < 5
      · have hp : 10 ^ k ≤ 10 ^ 5 := Nat.pow_le_pow_right (by omega) (by omega)
        have hs : 10 ^ (k + 1) = 10 ^ k * 10 := Nat.pow_succ 10 k
        obtain ⟨p, hpe⟩ : ∃ p, p = 10 ^ k := ⟨_, rfl⟩
        rw [← hpe] at hp hs ⊢
        have HS := Lib.hid hs
        clear hpe hs
        have hw : IntKind.i64.wrap ((p : Int) * 10) = ((p * 10 : Nat) : Int) := by rw [IntWalk.i64_in _ (by omega)]; omega
        go_wp2
        go_round
        case rel => exact ⟨k + 1, by omega, by go_num, by rw [HS.out, Int.natCast_mul]; rfl⟩
        case measure => simp [intOf]; omega
      · have hke : k = 5 := by omega
        subst hke
        go_wp2
        go_ret
        exact ⟨rfl, rfl⟩
  · rw [Nat.min_eq_left (by omega)]
    go_enter Tryd.func113, Tryd.ntmps113
    go_wp2
    go_loop [3, 6] (fun n i => ∃ k : Nat, k ≤ a ∧ i = .int .i64 k ∧ n = .int .i64 ((10 ^ k : Nat) : Int)) (fun _ i => a - (intOf i).toNat)
    case atStart => exact ⟨0, Nat.zero_le _, rfl, rfl⟩
    case round =>
      obtain ⟨k, hk, rfl, rfl⟩ := hrel
      by_cases hlt : k < a
      · have hp : 10 ^ k ≤ 10 ^ 5 := Nat.pow_le_pow_right (by omega) (by omega)
        have hs : 10 ^ (k + 1) = 10 ^ k * 10 := Nat.pow_succ 10 k
        obtain ⟨p, hpe⟩ : ∃ p, p = 10 ^ k := ⟨_, rfl⟩
        rw [← hpe] at hp hs ⊢
        have HS := Lib.hid hs
        clear hpe hs
        have hw : IntKind.i64.wrap ((p : Int) * 10) = ((p * 10 : Nat) : Int) := by rw [IntWalk.i64_in _ (by omega)]; omega
        go_wp2
        go_round
        case rel => exact ⟨k + 1, by omega, by go_num, by rw [HS.out, Int.natCast_mul]; rfl⟩
        case measure => simp [intOf]; omega
      · have hke : k = a := by omega
        subst hke
        go_wp2
        go_ret
        exact ⟨rfl, rfl⟩
end Go.Proofs.YtbaahbpianingaaDoor
