import Derived.Test.YtpooedfchjpndaaDoorMach
namespace Go.Proofs.YtpooedfchjpndaaDoor
open Go Go.Proofs Go.RowKit
set_option maxHeartbeats 800000
set_option maxRecDepth 100000
def obstF (t lv op behind : Int) (il dl rl : Nat) (b : Int) (ol : Nat) : Int :=
  if il < behind then 3
  else if dl < t ∨ (op = 19 ∧ rl = 0) then 4
  else if 16 < dl - t + lv ∨ (op = 18 ∧ 8 ≤ rl) then 5
  else if (op = 20 ∨ op = 21) ∧ 32 ≤ b then 3
  else if (op = 9 ∨ op = 10) ∧ b = 0 then 6
  else if op = 23 ∧ 1000 ≤ ol then 7
  else 0
theorem wrap64_u16 {b : Int} (h1 : 0 ≤ b) (h2 : b < 65536) : wrap64 b = b := IntWalk.wrap64_in b ⟨by omega, by omega⟩
theorem obstacle_c (bm : Nat) (op behind t lv : Int) (A0 A2 A3 A6 : Option Addr) (l : List Int) (il rl ol c0 c2 c3 c6 : Nat) (w : World)
    (hop : 0 ≤ op ∧ op < 24) (hbh : 0 ≤ behind ∧ behind ≤ 1000) (ht : 0 ≤ t ∧ t ≤ 2) (hlv : 0 ≤ lv ∧ lv ≤ 3) (hl : l.length ≤ 16) (hh : Half l) (_hil : il ≤ 256) (hrl : rl ≤ 8) (hol : ol ≤ 1000)
    (k0 : w.cell? ⟨bm, 0, none⟩ = some (.slice A0 il c0)) (k2 : w.cell? ⟨bm, 2, none⟩ = some (.slice A2 l.length c2)) (hs : Sl w .u16 A2 l)
    (k3 : w.cell? ⟨bm, 3, none⟩ = some (.slice A3 rl c3)) (k6 : w.cell? ⟨bm, 37, none⟩ = some (.slice A6 ol c6))
    (g0 : w.cell? ⟨0, op.toNat, none⟩ = some (.int .i64 t)) (g1 : w.cell? ⟨1, op.toNat, none⟩ = some (.int .i64 lv)) :
    Calls Tryd.prog 28 #[.pointer (some ⟨bm, 0, none⟩), .int .i64 op, .int .i64 behind] w fun e w' => e = .returned (.int .i64 (obstF t lv op behind il l.length rl (topF l 0) ol)) ∧ ∃ n, w' = w.drewN n := by
  obtain ⟨o1, o2⟩ := hop
  obtain ⟨t1, t2⟩ := ht
  obtain ⟨v1, v2⟩ := hlv
  obtain ⟨b1, b2⟩ := hbh
  have htop := top_c bm A2 l c2 0 w (by omega) (by omega) k2 hs
  have HT := Lib.hid htop
  clear htop
  have hb : 0 ≤ topF l 0 ∧ topF l 0 < 65536 := by
    unfold topF
    split
    · rename_i h
      rw [List.getElem?_eq_getElem (by omega)]
      exact hh _ (List.getElem_mem _)
    · omega
  obtain ⟨b, hbe⟩ : ∃ b, topF l 0 = b := ⟨_, rfl⟩
  rw [hbe] at hb HT
  obtain ⟨h1, h2⟩ := hb
  have hw := wrap64_u16 h1 h2
  have HB := Lib.hid hbe
  rw [hbe]
  clear hbe
  by_cases c1 : (il : Int) < behind
  · have hf : 3 = obstF t lv op behind il l.length rl b ol := by unfold obstF; rw [if_pos c1]
    have HF := Lib.hid hf
    clear hf
    go_enter Tryd.func28, Tryd.ntmps28
    go_wp2_with (go_at_call 29; refine HT.out.mono ?_; rintro e w' ⟨rfl, rfl⟩)
    go_ret
    exact ⟨ret_int HF.out, 0, rfl⟩
  by_cases d1 : (l.length : Int) < t
  · have hf : 4 = obstF t lv op behind il l.length rl b ol := by unfold obstF; rw [if_neg c1, if_pos (Or.inl d1)]
    have HF := Lib.hid hf
    clear hf
    have dd : decide ((l.length : Int) < t) = true := by simpa using d1
    go_enter Tryd.func28, Tryd.ntmps28
    go_wp2_with (go_at_call 29; refine HT.out.mono ?_; rintro e w' ⟨rfl, rfl⟩)
    go_quiet (fail)
    go_wp2
    go_ret
    exact ⟨ret_int HF.out, _, rfl⟩
  have dd : decide ((l.length : Int) < t) = false := by simpa using d1
  by_cases d2 : op = 19
  · by_cases d3 : rl = 0
    · have hf : 4 = obstF t lv op behind il l.length rl b ol := by unfold obstF; rw [if_neg c1, if_pos (Or.inr ⟨d2, d3⟩)]
      have HF := Lib.hid hf
      clear hf
      have d2' : (op == 19) = true := by simpa using d2
      have d4 : ((rl : Int) == 0) = true := by simp; omega
      clear d2 d3
      go_enter Tryd.func28, Tryd.ntmps28
      go_wp2_with (go_at_call 29; refine HT.out.mono ?_; rintro e w' ⟨rfl, rfl⟩)
      go_quiet (fail)
      go_wp2
      go_ret
      exact ⟨ret_int HF.out, _, rfl⟩
    · have hf : (if 16 < (l.length : Int) - t + lv then 5 else 0) = obstF t lv op behind il l.length rl b ol := by
        have q1 : ¬ ((l.length : Int) < t ∨ (op = 19 ∧ rl = 0)) := by omega
        unfold obstF; rw [if_neg c1, if_neg q1]
        by_cases hx : 16 < (l.length : Int) - t + lv
        · rw [if_pos hx, if_pos (Or.inl hx)]
        · have q2 : ¬ (16 < (l.length : Int) - t + lv ∨ (op = 18 ∧ 8 ≤ rl)) := by omega
          rw [if_neg hx, if_neg q2, if_neg (by omega), if_neg (by omega), if_neg (by omega)]
      have HF := Lib.hid hf
      clear hf
      have d2' : (op == 19) = true := by simpa using d2
      have d4 : ((rl : Int) == 0) = false := by simp; omega
      have d5' : (op == 18) = false := by simp; omega
      have q3 : 19 ≤ op := by omega
      have q4 : op ≤ 19 := by omega
      clear d2
      by_cases hx : 16 < (l.length : Int) - t + lv
      · have dx : decide (16 < (l.length : Int) - t + lv) = true := by simpa using hx
        go_enter Tryd.func28, Tryd.ntmps28
        go_wp2_with (go_at_call 29; refine HT.out.mono ?_; rintro e w' ⟨rfl, rfl⟩)
        go_quiet (fail)
        go_wp2
        go_quiet (fail)
        go_wp2
        go_ret
        exact ⟨ret_int (by rw [← HF.out, if_pos hx]), _, World.drewN_drewN _ _ _⟩
      · have dx : decide (16 < (l.length : Int) - t + lv) = false := by simpa using hx
        go_enter Tryd.func28, Tryd.ntmps28
        go_wp2_with (go_at_call 29; refine HT.out.mono ?_; rintro e w' ⟨rfl, rfl⟩)
        go_quiet (fail)
        go_wp2
        go_quiet (fail)
        go_wp2
        go_ret
        exact ⟨ret_int (by rw [← HF.out, if_neg (by omega)]), _, rfl⟩
  have d2' : (op == 19) = false := by simpa using d2
  by_cases hx : 16 < (l.length : Int) - t + lv
  · have hf : 5 = obstF t lv op behind il l.length rl b ol := by unfold obstF; rw [if_neg c1, if_neg (by omega), if_pos (Or.inl hx)]
    have HF := Lib.hid hf
    clear hf
    have dx : decide (16 < (l.length : Int) - t + lv) = true := by simpa using hx
    go_enter Tryd.func28, Tryd.ntmps28
    go_wp2_with (go_at_call 29; refine HT.out.mono ?_; rintro e w' ⟨rfl, rfl⟩)
    go_quiet (fail)
    go_wp2
    go_quiet (fail)
    go_wp2
    go_ret
    exact ⟨ret_int HF.out, _, World.drewN_drewN _ _ _⟩
  have dx : decide (16 < (l.length : Int) - t + lv) = false := by simpa using hx
  by_cases d5 : op = 18
  · by_cases d6 : 8 ≤ rl
    · have hf : 5 = obstF t lv op behind il l.length rl b ol := by unfold obstF; rw [if_neg c1, if_neg (by omega), if_pos (Or.inr ⟨d5, d6⟩)]
      have HF := Lib.hid hf
      clear hf
      have d5' : (op == 18) = true := by simpa using d5
      have dy : decide (8 ≤ rl) = true := by simpa using d6
      have dz : decide ((8 : Int) ≤ (rl : Int)) = true := by simp; omega
      have q3 : 18 ≤ op := by omega
      have q4 : op ≤ 18 := by omega
      clear d5
      go_enter Tryd.func28, Tryd.ntmps28
      go_wp2_with (go_at_call 29; refine HT.out.mono ?_; rintro e w' ⟨rfl, rfl⟩)
      go_quiet (fail)
      go_wp2
      go_quiet (fail)
      go_wp2
      go_ret
      exact ⟨ret_int HF.out, _, World.drewN_drewN _ _ _⟩
    · have hf : 0 = obstF t lv op behind il l.length rl b ol := by unfold obstF; rw [if_neg c1, if_neg (by omega), if_neg (by omega), if_neg (by omega), if_neg (by omega), if_neg (by omega)]
      have HF := Lib.hid hf
      clear hf
      have d5' : (op == 18) = true := by simpa using d5
      have dy : decide (8 ≤ rl) = false := by simpa using d6
      have dz : decide ((8 : Int) ≤ (rl : Int)) = false := by simp; omega
      have q3 : 18 ≤ op := by omega
      have q4 : op ≤ 18 := by omega
      clear d5
      go_enter Tryd.func28, Tryd.ntmps28
      go_wp2_with (go_at_call 29; refine HT.out.mono ?_; rintro e w' ⟨rfl, rfl⟩)
      go_quiet (fail)
      go_wp2
      go_quiet (fail)
      go_wp2
      go_ret
      exact ⟨ret_int HF.out, _, rfl⟩
  have d5' : (op == 18) = false := by simpa using d5
  have hf : (if (op = 20 ∨ op = 21) ∧ 32 ≤ b then 3 else if (op = 9 ∨ op = 10) ∧ b = 0 then 6 else if op = 23 ∧ 1000 ≤ ol then 7 else 0) = obstF t lv op behind il l.length rl b ol := by
    have q1 : ¬ ((l.length : Int) < t ∨ (op = 19 ∧ rl = 0)) := by omega
    have q2 : ¬ (16 < (l.length : Int) - t + lv ∨ (op = 18 ∧ 8 ≤ rl)) := by omega
    unfold obstF; rw [if_neg c1, if_neg q1, if_neg q2]
  have HF := Lib.hid hf
  clear hf
  go_enter Tryd.func28, Tryd.ntmps28
  go_wp2_with (go_at_call 29; refine HT.out.mono ?_; rintro e w' ⟨rfl, rfl⟩)
  go_quiet (fail)
  go_wp2
  go_quiet (fail)
  go_wp2
  all_goals go_ret
  all_goals refine ⟨ret_int ?_, _, rfl⟩
  all_goals rw [← HF.out]
  all_goals simp only [beq_iff_eq, beq_eq_false_iff_ne, ne_eq] at *
  all_goals repeat' split
  all_goals omega
end Go.Proofs.YtpooedfchjpndaaDoor
