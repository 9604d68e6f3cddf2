/- What the claims of the stack machine share: the tables of the program's text, a world and arguments that meet the rows, and that every call of a law that answers true meets its row. -/
import Derived.Test.YtpooedfchjpndaaDoorCards
import Derived.Test.YtpooedfchjpndaaDoorTie
import Derived.Test.YtpooedfchjpndaaDoorOpen
import Derived.Test.YtpooedfchjpndaaDoorStart
import Derived.Deep.DeepHandedRow
import Derived.Lib.LaidTab
namespace Go.Proofs.YtpooedfchjpndaaDoor
open Go Go.ChangeShapes Go.WideShapes Go.ChangeAt Go.RowKit
theorem own : ownKnob Tryd.prog.godebug = none := by kernel_rfl
theorem laidOut : laidOutB Tryd.prog = true := by kernel_rfl
theorem gTakes : Tryd.prog.globalNamed "scriptorium/oldstack.takes" = some 0 := by kernel_rfl
theorem gLeaves : Tryd.prog.globalNamed "scriptorium/oldstack.leaves" = some 1 := by kernel_rfl
theorem gTakesType : ∃ t, (Tryd.prog.globals[0]?).map (·.type) = some t ∧ Tryd.prog.underlying t = some (.array 24 3) ∧ Tryd.prog.cellsOf t = 24 := ⟨_, rfl, by kernel_rfl, by kernel_rfl⟩
theorem gLeavesType : ∃ t, (Tryd.prog.globals[1]?).map (·.type) = some t ∧ Tryd.prog.underlying t = some (.array 24 3) ∧ Tryd.prog.cellsOf t = 24 := ⟨_, rfl, by kernel_rfl, by kernel_rfl⟩
def laidL : List (String × DataW Unit) := [("scriptorium/oldstack.takes", Rows.laid_scriptorium_oldstack_takes), ("scriptorium/oldstack.leaves", Rows.laid_scriptorium_oldstack_leaves)]
theorem tabs_of {W : World} (h : laidMetH Tryd.prog laidL W) : Tabs W := by
  have h' : laidMet Tryd.prog laidL W := h
  have h2 : laidMet Tryd.prog [("scriptorium/oldstack.leaves", Rows.laid_scriptorium_oldstack_leaves)] W := h'.filter (fun x => x.1 == "scriptorium/oldstack.leaves")
  obtain ⟨t, t1, t2, t3⟩ := gTakesType
  obtain ⟨u, u1, u2, u3⟩ := gLeavesType
  have a : Lib.TabIs Tryd.prog W "scriptorium/oldstack.takes" .i64 takesL := Lib.tabIs_of_head gTakes t1 t2 Tryd.underlying3 cells3 t3 h'
  have b : Lib.TabIs Tryd.prog W "scriptorium/oldstack.leaves" .i64 leavesL := Lib.tabIs_of_head gLeaves u1 u2 Tryd.underlying3 cells3 u3 h2
  exact ⟨fun i hi => a.cell gTakes i hi, fun i hi => b.cell gLeaves i hi⟩
def takesV : Array Value := (takesL.map (Value.int .i64)).toArray
def leavesV : Array Value := (leavesL.map (Value.int .i64)).toArray
def putRow (cs : Array Value) : Obj → Obj
  | .cells _ t frozen => .cells cs t frozen
  | o => o
noncomputable def laidWorld (os : Os) : World :=
  { World.holding Tryd.prog os ⟨#[], #[], []⟩ with heap := ((World.holding Tryd.prog os ⟨#[], #[], []⟩).heap.modify 0 (putRow takesV)).modify 1 (putRow leavesV) }
def zeroLitSt : Value := .agg #[.slice none 0 0, .int .i64 0, .slice none 0 0, .slice none 0 0, .int .u16 0, .int .u16 0, .int .u16 0, .int .u16 0, .int .u16 0, .int .u16 0, .int .u16 0, .int .u16 0, .int .u16 0, .int .u16 0, .int .u16 0, .int .u16 0, .int .u16 0, .int .u16 0, .int .u16 0, .int .u16 0, .int .u16 0, .int .u16 0, .int .u16 0, .int .u16 0, .int .u16 0, .int .u16 0, .int .u16 0, .int .u16 0, .int .u16 0, .int .u16 0, .int .u16 0, .int .u16 0, .int .u16 0, .int .u16 0, .int .u16 0, .int .u16 0, .slice none 0 0, .slice none 0 0, .int .i64 0]
def zeroData {H : Type} : DataW H := .agg [.nil, .lit (.int .i64 0), .nil, .nil, .agg (List.replicate 32 (.lit (.int .u16 0))), .nil, .nil, .lit (.int .i64 0)]
end Go.Proofs.YtpooedfchjpndaaDoor
