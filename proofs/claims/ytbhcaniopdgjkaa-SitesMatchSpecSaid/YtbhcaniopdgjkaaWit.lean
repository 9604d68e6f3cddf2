/- What the claims on sites and copies share: a world and arguments that meet the rows, and that every call of a law that answers true meets its row. -/
import Derived.Test.YtbhcaniopdgjkaaRows
import Derived.Test.YtbhcaniopdgjkaaOpen
import Derived.Test.YtbhcaniopdgjkaaShelf
import Derived.Test.YtbhcaniopdgjkaaNameP
import Derived.Deep.DeepHandedRow
namespace Go.Proofs.Ytbhcaniopdgjkaa
open Go Go.ChangeShapes Go.WideShapes Go.ChangeAt Go.RowKit
set_option maxRecDepth 100000
theorem own : ownKnob Try.prog.godebug = none := by kernel_rfl
theorem laidOut : laidOutB Try.prog = true := by kernel_rfl
theorem glob_of {W : World} (h : W.ShapedOpen Try.prog) : Glob W := by
  obtain ⟨m, hm⟩ := Try.laysM219.s1_3 W h
  exact ⟨m, hm⟩
noncomputable def firstWorld (os : Os) : World := World.holding Try.prog os ⟨#[], #[], []⟩
section
variable {H : Type} {enc : TypeId × Value → H} {W : World} {base : Nat} {sp : Nat → Bool} {held : Bool} {r : Reach} {b0 : Nat} {v : Value} {d : DataW H} {ps : List MemPlace}
theorem arg_sites (hval : Value.okWide Try.prog W r b0 22 v) (hd : DataW.Trod enc Try.prog W base sp held 22 v d ps) : ∃ A L c, v = .slice A L.length c ∧ L.length ≤ c ∧ c ≤ maxLen ∧ Sites W A L := by
  obtain ⟨a, len, cap, rfl⟩ := okWide_slice Try.underlying22 hval
  obtain ⟨fuel, hf⟩ := hd
  obtain ⟨A, L, c, h1, h2, h3, h4⟩ := open_sites hf
  have h5 : [Value.slice a len cap] = [Value.slice A L.length c] := h1
  injection h5 with h5
  exact ⟨A, L, c, h5, h2, h3, h4⟩
theorem arg_ints (hval : Value.okWide Try.prog W r b0 23 v) (hd : DataW.Trod enc Try.prog W base sp held 23 v d ps) : ∃ A l c, v = .slice A l.length c ∧ l.length ≤ maxLen ∧ Sl W .i64 A l := by
  obtain ⟨a, len, cap, rfl⟩ := okWide_slice Try.underlying23 hval
  obtain ⟨fuel, hf⟩ := hd
  have hf' : DataW.trod enc Try.prog W base sp held fuel 23 [Value.slice a len cap] = some (d, ps) := hf
  obtain ⟨l, ⟨A, c, h1, h2, h3, _, h4⟩, _⟩ := slAt_trod Try.underlying23 Try.underlying3 cells3 hf'
  injection h1 with h1
  exact ⟨A, l, c, h1, Nat.le_trans h2 h3, h4⟩
end
end Go.Proofs.Ytbhcaniopdgjkaa
