import Derived.Test.YtbaahbpianingaaDoorMg4
import Derived.Deep.RegionLaw
import Derived.RegionTactic
import Derived.Deep.RegionHeld3
namespace Go.Proofs.YtbaahbpianingaaDoor
open Go Go.Proofs Go.RowKit
open Acc (Dk red five)
set_option maxHeartbeats 1000000
set_option maxRecDepth 100000
theorem below_set (w : World) (bm i : Nat) (u : Value) : Below bm w (w.setCell ⟨bm, i, none⟩ u) := Below.setCell (p := ⟨bm, i, none⟩) (Below.refl bm w) (Nat.le_refl _) u
/-- An operation has been done. -/
def EffPost (w : World) (bm : Nat) (s' : Dk) (e : Ending) (w' : World) : Prop := e = .returned (.tuple #[]) ∧ ∃ cs' vo', MachIs w' bm s' cs' vo' ∧ Below bm w w'
/-- What a state is like in which the machine can go on. -/
structure OkSt (s : Dk) : Prop where
  ok : Acc.Ok s
  outb : Byt s.output
section
variable {w : World} {bm g : Nat} {s : Dk} {cs : Array Value} {vo : Value}
/-- The variable m that the closures have caught. -/
def Caught (w : World) (g bm : Nat) : Prop := w.cell? ⟨g, 0, none⟩ = some (.pointer (some ⟨bm, 0, none⟩))
theorem Caught.ne (hc : Caught w g bm) (h : MachIs w bm s cs vo) : g ≠ bm := by
  intro e
  subst e
  have h0 := h.cWord (i := 0) (by omega)
  unfold Caught at hc
  rw [hc] at h0
  cases h0
theorem Caught.set (hc : Caught w g bm) (hn : g ≠ bm) (i : Nat) (u : Value) : Caught (w.setCell ⟨bm, i, none⟩ u) g bm := by
  unfold Caught at *
  rw [← hc]
  unfold World.cell?
  simp only
  rw [Below.heap_setCell _ _ _ _ hn]
theorem MachIs.drew (h : MachIs w bm s cs vo) : MachIs w.drew bm s cs vo := h.keep fun _ _ => rfl
theorem below_setE (w : World) (bm i : Nat) (u : Value) : Below bm w (w.setCell ⟨bm, i, none⟩ u).drew := Below.drew (below_set w bm i u)
theorem below_setD (w : World) (bm i : Nat) (u : Value) : Below bm w (w.drew.setCell ⟨bm, i, none⟩ u) := Below.setCell (p := ⟨bm, i, none⟩) (Below.drew (Below.refl bm w)) (Nat.le_refl _) u
theorem keep_cell {b o b' o' : Nat} {u v : Value} (h : w.cell? ⟨b, o, none⟩ = some v) (hn : b ≠ b' ∨ o ≠ o') : ((w.setCell ⟨b', o', none⟩ u).drew).cell? ⟨b, o, none⟩ = some v := by
  have : ((w.setCell ⟨b', o', none⟩ u).drew).cell? ⟨b, o, none⟩ = (w.setCell ⟨b', o', none⟩ u).cell? ⟨b, o, none⟩ := rfl
  rw [this, ← h]
  by_cases hb : b = b'
  · subst hb
    have ho : o ≠ o' := hn.resolve_left (fun q => q rfl)
    simp [World.cell?, World.setCell, Array.getElem?_modify]
    cases w.heap[b]? with
    | none => rfl
    | some x => cases x <;> simp [Ne.symm ho]
  · unfold World.cell?
    simp only
    rw [Below.heap_setCell _ _ _ _ hb]
theorem word_cell (h : MachIs w bm s cs vo) {a : Int} (ha : 0 ≤ a ∧ a < 100) : w.cell? ⟨bm, a.toNat, none⟩ = some (.int .i64 (Acc.wordAt s a)) := h.cWord (by omega)
theorem eff0 (h : MachIs w bm s cs vo) (hc : Caught w g bm) (a : Int) : Calls Tryd.prog 93 #[.int .i64 a, .pointer (some ⟨g, 0, none⟩)] w (EffPost w bm (Acc.effF s 0 a)) := by
  have he : Acc.effF s 0 a = { s with stop := 1 } := by simp [Acc.effF]
  rw [he]
  have HF := Lib.hid (h.setStop 1)
  have k1 := h.cStop
  have k2 := h.frozen 107
  have hlt := h.lt
  have k3 : w.cell? ⟨g, 0, none⟩ = some (.pointer (some ⟨bm, 0, none⟩)) := hc
  clear h hc he
  go_enter Tryd.func93, Tryd.ntmps93
  go_wp2
  refine bodyPost_end (results_none (by rfl) _ _ _) rfl ?_
  exact ⟨rfl, _, _, HF.out, below_set _ _ _ _⟩
theorem eff1 (h : MachIs w bm s cs vo) (hc : Caught w g bm) (a : Nat) (ha : a < 100) : Calls Tryd.prog 94 #[.int .i64 (a : Int), .pointer (some ⟨g, 0, none⟩)] w (EffPost w bm (Acc.effF s 1 a)) := by
  have he : Acc.effF s 1 a = { s with a := Acc.wordAt s a } := by simp [Acc.effF]
  rw [he]
  have HH := Lib.hid h
  have k1 := h.cA
  have k2 := h.frozen 101
  have hlt := h.lt
  have k3 : w.cell? ⟨g, 0, none⟩ = some (.pointer (some ⟨bm, 0, none⟩)) := hc
  have k4 : w.cell? ⟨bm, a, none⟩ = some (.int .i64 (Acc.wordAt s a)) := by have := h.cWord ha; simpa [Acc.wordAt] using this
  have i0 : (0 : Int) ≤ (a : Int) := by omega
  have i1 : (a : Int) < 100 := by omega
  have hgb := hc.ne h
  generalize Acc.wordAt s a = x at *
  clear h hc he
  go_enter Tryd.func94, Tryd.ntmps94
  go_region_held3 (fun w' => w'.cell? ⟨g, 0, none⟩ = some (.pointer (some ⟨bm, 0, none⟩)) ∧ w'.cell? ⟨bm, a, none⟩ = some (.int .i64 x)) ((first | exact ⟨keep_cell k3 (.inl hgb), keep_cell k4 (.inr (by omega))⟩ | go_keep)) (fail)
  all_goals go_wp2
  all_goals refine bodyPost_end (results_none Tryd.results94 _ _ _) rfl ?_
  all_goals exact ⟨rfl, _, _, (HH.out.setA _).drew, below_setE _ _ _ _⟩
theorem eff2 (h : MachIs w bm s cs vo) (hc : Caught w g bm) (a : Nat) (ha : a < 100) : Calls Tryd.prog 95 #[.int .i64 (a : Int), .pointer (some ⟨g, 0, none⟩)] w (EffPost w bm (Acc.effF s 2 a)) := by
  have he : Acc.effF s 2 a = { s with words := s.words.set a s.a } := by simp [Acc.effF]
  rw [he]
  have HH := Lib.hid h
  have hlt := h.lt
  have k3 : w.cell? ⟨g, 0, none⟩ = some (.pointer (some ⟨bm, 0, none⟩)) := hc
  have k4 : w.cell? ⟨bm, a, none⟩ = some (.int .i64 (Acc.wordAt s a)) := by have := h.cWord ha; simpa [Acc.wordAt] using this
  have k1 := h.cA
  have k2 := h.frozen a
  have i0 : (0 : Int) ≤ (a : Int) := by omega
  have i1 : (a : Int) < 100 := by omega
  have hgb := hc.ne h
  generalize Acc.wordAt s a = x at *
  clear h hc he
  go_enter Tryd.func95, Tryd.ntmps95
  go_region_held3 (fun w' => w'.cell? ⟨g, 0, none⟩ = some (.pointer (some ⟨bm, 0, none⟩)) ∧ w'.cell? ⟨bm, 101, none⟩ = some (.int .i64 s.a)) ((first | exact ⟨keep_cell k3 (.inl hgb), keep_cell k1 (.inr (by omega))⟩ | go_keep)) (fail)
  all_goals go_wp2
  all_goals refine bodyPost_end (results_none Tryd.results95 _ _ _) rfl ?_
  all_goals exact ⟨rfl, _, _, (HH.out.setWord ha _).drew, below_setE _ _ _ _⟩
theorem eff11 (h : MachIs w bm s cs vo) (hc : Caught w g bm) (a : Nat) (ha : a < 100) : Calls Tryd.prog 107 #[.int .i64 (a : Int), .pointer (some ⟨g, 0, none⟩)] w (EffPost w bm (Acc.effF s 11 a)) := by
  have he : Acc.effF s 11 a = { s with x := Acc.wordAt s a } := by simp [Acc.effF]
  rw [he]
  have HH := Lib.hid h
  have hlt := h.lt
  have k3 : w.cell? ⟨g, 0, none⟩ = some (.pointer (some ⟨bm, 0, none⟩)) := hc
  have k4 : w.cell? ⟨bm, a, none⟩ = some (.int .i64 (Acc.wordAt s a)) := by have := h.cWord ha; simpa [Acc.wordAt] using this
  have k1 := h.cX
  have k2 := h.frozen 103
  have i0 : (0 : Int) ≤ (a : Int) := by omega
  have i1 : (a : Int) < 100 := by omega
  have hgb := hc.ne h
  generalize Acc.wordAt s a = x at *
  clear h hc he
  go_enter Tryd.func107, Tryd.ntmps107
  go_region_held3 (fun w' => w'.cell? ⟨g, 0, none⟩ = some (.pointer (some ⟨bm, 0, none⟩)) ∧ w'.cell? ⟨bm, a, none⟩ = some (.int .i64 x)) ((first | exact ⟨keep_cell k3 (.inl hgb), keep_cell k4 (.inr (by omega))⟩ | go_keep)) (fail)
  all_goals go_wp2
  all_goals refine bodyPost_end (results_none Tryd.results107 _ _ _) rfl ?_
  all_goals exact ⟨rfl, _, _, (HH.out.setX _).drew, below_setE _ _ _ _⟩
end
end Go.Proofs.YtbaahbpianingaaDoor
