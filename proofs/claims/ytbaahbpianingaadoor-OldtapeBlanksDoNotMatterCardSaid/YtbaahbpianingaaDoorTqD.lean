import Derived.Test.YtbaahbpianingaaDoorMg34
namespace Go.Proofs.YtbaahbpianingaaDoor
open Go Go.Proofs Go.RowKit
open Tape (Rule Ts)
set_option maxHeartbeats 1600000
set_option maxRecDepth 100000
theorem ruleB_turn (r : Rule) : Tape.ruleB (Tape.turn r) = Tape.ruleB r := by
  rw [Bool.eq_iff_iff, Tape.ruleB_iff, Tape.ruleB_iff]
  unfold Tape.turn
  simp only
  constructor
  · rintro ⟨a, b, c, d, e⟩; exact ⟨a, b, c, by omega, e⟩
  · rintro ⟨a, b, c, d, e⟩; exact ⟨a, b, c, by omega, e⟩
theorem ordB_turn (p : Option Rule) (r : Rule) : ordB (p.map Tape.turn) (Tape.turn r) = ordB p r := by cases p <;> rfl
theorem scanR_turn : ∀ (L : List Rule) (i : Nat) (p : Option Rule), scanR i (p.map Tape.turn) (L.map Tape.turn) = scanR i p L
  | [], _, _ => rfl
  | r :: L, i, p => by
    have ih := scanR_turn L (i + 1) (some r)
    rw [List.map_cons, scanR, scanR, ruleB_turn, ordB_turn]
    rw [show some (Tape.turn r) = (some r).map Tape.turn from rfl, ih]
theorem faultR_turn (L : List Rule) : faultR (L.map Tape.turn) = faultR L := by
  unfold faultR
  rw [List.length_map]
  have := scanR_turn L 0 none
  rw [Option.map_none] at this
  rw [this]
theorem faultT_of_ok {s : Ts} (h : Tape.Ok s) (hr : faultR s.rules = (0, 0)) : faultT s = (0, 0) := by
  have h1 := h.len
  have h2 := h.at_
  have h3 := h.state
  have h4 := h.stop
  have hb : badB s.cells = false := by
    unfold badB
    rw [List.any_eq_false]
    intro c hc
    have := h.cells c hc
    unfold symB inB
    simp
    omega
  unfold faultT
  rw [if_neg (by rw [hr]; simp), if_neg (by unfold inB; simp; omega), if_neg]
  simp only [not_or, hb]
  unfold inB
  refine ⟨by decide, ?_, ?_, ?_⟩
  all_goals simp
  all_goals omega
theorem mirror_ok {s : Ts} (h : Tape.Ok s) : Tape.Ok (Tape.mirror s) := by
  have h2 := h.at_
  refine { rules := ?_, len := ?_, cells := ?_, at_ := ?_, state := h.state, stop := h.stop }
  · intro r hr
    obtain ⟨q, hq, rfl⟩ := List.mem_map.1 (show r ∈ s.rules.map Tape.turn from hr)
    rw [ruleB_turn]; exact h.rules q hq
  · show 1 ≤ s.cells.reverse.length ∧ s.cells.reverse.length ≤ 200
    rw [List.length_reverse]; exact h.len
  · intro c hc
    exact h.cells c (by simpa using (show c ∈ s.cells.reverse from hc))
  · show 0 ≤ (s.cells.length : Int) - 1 - s.at_ ∧ (s.cells.length : Int) - 1 - s.at_ < (s.cells.reverse.length : Int)
    rw [List.length_reverse]; omega
theorem faultT_rules {s : Ts} (h : faultT s = (0, 0)) : faultR s.rules = (0, 0) := by
  unfold faultT at h
  split at h
  · rename_i h1; exact absurd h h1
  · rename_i h1; exact Classical.not_not.1 h1
theorem faultT_mirror {s : Ts} (h : faultT s = (0, 0)) : faultT (Tape.mirror s) = (0, 0) :=
  faultT_of_ok (mirror_ok (okt_of h).1) (by show faultR (s.rules.map Tape.turn) = _; rw [faultR_turn]; exact faultT_rules h)
theorem step_rules (s : Ts) : (Tape.stepF s).rules = s.rules := by
  unfold Tape.stepF
  split
  · rfl
  · unfold Tape.actF
    repeat' split
    all_goals rfl
theorem run_rules : ∀ (n : Nat) (s : Ts), (Tape.runF n s).1.rules = s.rules
  | 0, _ => rfl
  | n + 1, s => by
    rw [Tape.runF]
    split
    · simp only; rw [run_rules n, step_rules]
    · rfl
theorem faultT_run {s : Ts} (n : Nat) (h : faultT s = (0, 0)) : faultT (Tape.runF n s).1 = (0, 0) :=
  faultT_of_ok (Tape.run_ok n s (okt_of h).1) (by rw [run_rules]; exact faultT_rules h)
/-- States are equal, as the specification asks it. -/
def sameTB (a b : Ts) : Bool := decide (a.rules = b.rules) && decide (a.cells = b.cells) && decide (a.at_ = b.at_) && decide (a.state = b.state) && decide (a.stop = b.stop)
theorem sameTB_refl (a : Ts) : sameTB a a = true := by unfold sameTB; simp
end Go.Proofs.YtbaahbpianingaaDoor
