/-
  No cell of these rows narrows 'for every input' (looked for: loops, veiled, ifaces, maps, wideKeys, modest, calm, conditions, laid).
  DERIVED. THE GIVEN ROWS OF THIS SEAT. 11 by the template 'for every input the law returns true; each argument reads behind the call as it read before'; 0 by the template 'total and deterministic' (their statements: YtbhcaniopdgjkaaTotals.lean).
  GIVEN WITH THE SEED: the statements are not yours to turn. If you find one false, say at which input.
  Laid BY PROGRAM, IN A SANDBOX (cutbox-rows.mjs): the forced cells as the released guide's own fill.sh prints them over the translation fff6ea5cb5fa0fe4… (all of the seat's roots in one cut). By AI agents, Wed Nov 11 2026. No macro, syntax, notation, axiom, sorry.
-/
import Derived.Test.YtbhcaniopdgjkaaChecked
import GoSem.Claim
import GoSem.ClaimJoined
import GoSem.ClaimMapViews
import Derived.JoinedTies
import Derived.KernelRfl
namespace Go.Proofs.Ytbhcaniopdgjkaa
/- THE CELL 'sum', in the pinned program and in every row, IS THE sha256 OF THE DUMP (.gsa) THAT YtbhcaniopdgjkaaProg.lean LOADS. Nothing in Lean hashes anything: it is a label: what it is worth is what the hold of that sum in a sandbox is worth. -/
noncomputable def Try.pinned : Pinned := { name := "ytbhcaniopdgjkaa", sum := "fff6ea5cb5fa0fe4f651a3d883944bd6f36057a4aba2c98a0dda7e0d76129894", checked := Try.checked }
namespace Rows
def none {H : Type} : Left H := { results := [], args := [] }

/-- 'scriptoriumlaw8.SitesMatchSpec': WHATEVER THE INPUT: true; the input reads as it did. -/
def sitesMatchSpecSpec : ChangeSpec := { name := "sitesMatchSpec", fn := fun _ => fun
  | [d1, d2, d3] => { results := [.lit (.bool true)], args := [d1, d2, d3] }
  | _ => none }
def sitesMatchSpecRow : OpenClaim := { program := "ytbhcaniopdgjkaa", sum := "fff6ea5cb5fa0fe4f651a3d883944bd6f36057a4aba2c98a0dda7e0d76129894", func := "scriptorium/scriptoriumlaw8.SitesMatchSpec", spec := "sitesMatchSpec", inPlace := ["internal/bytealg.IndexByteString", "internal/bytealg.IndexString"], unfollowed := true, recurses := true, named := ["internal/bytealg.MaxLen"], apart := false }
def SitesMatchSpecSaid : Prop := sitesMatchSpecRow.holds Try.pinned (OpenSpec.ofChange sitesMatchSpecSpec)

/-- ITS FALSE NEIGHBOUR: 'it returns false'. Refute it at one input. -/
def sitesMatchSpecWrong : ChangeSpec := { name := "sitesMatchSpec", fn := fun _ => fun
  | [d1, d2, d3] => { results := [.lit (.bool false)], args := [d1, d2, d3] }
  | _ => none }
def SitesMatchSpecWrongFalsely : Prop := sitesMatchSpecRow.holds Try.pinned (OpenSpec.ofChange sitesMatchSpecWrong)

/-- 'scriptoriumlaw8.SitesWorstMatchesSpec': WHATEVER THE INPUT: true; the input reads as it did. -/
def sitesWorstMatchesSpecSpec : ChangeSpec := { name := "sitesWorstMatchesSpec", fn := fun _ => fun
  | [d1, d2, d3, d4, d5] => { results := [.lit (.bool true)], args := [d1, d2, d3, d4, d5] }
  | _ => none }
def sitesWorstMatchesSpecRow : OpenClaim := { program := "ytbhcaniopdgjkaa", sum := "fff6ea5cb5fa0fe4f651a3d883944bd6f36057a4aba2c98a0dda7e0d76129894", func := "scriptorium/scriptoriumlaw8.SitesWorstMatchesSpec", spec := "sitesWorstMatchesSpec", inPlace := ["internal/bytealg.IndexByteString", "internal/bytealg.IndexString"], unfollowed := true, recurses := true, named := ["internal/bytealg.MaxLen"], apart := false }
def SitesWorstMatchesSpecSaid : Prop := sitesWorstMatchesSpecRow.holds Try.pinned (OpenSpec.ofChange sitesWorstMatchesSpecSpec)

/-- ITS FALSE NEIGHBOUR: 'it returns false'. Refute it at one input. -/
def sitesWorstMatchesSpecWrong : ChangeSpec := { name := "sitesWorstMatchesSpec", fn := fun _ => fun
  | [d1, d2, d3, d4, d5] => { results := [.lit (.bool false)], args := [d1, d2, d3, d4, d5] }
  | _ => none }
def SitesWorstMatchesSpecWrongFalsely : Prop := sitesWorstMatchesSpecRow.holds Try.pinned (OpenSpec.ofChange sitesWorstMatchesSpecWrong)

/-- 'scriptoriumlaw8.SitesWorstIsABound': WHATEVER THE INPUT: true; the input reads as it did. -/
def sitesWorstIsABoundSpec : ChangeSpec := { name := "sitesWorstIsABound", fn := fun _ => fun
  | [d1, d2, d3, d4] => { results := [.lit (.bool true)], args := [d1, d2, d3, d4] }
  | _ => none }
def sitesWorstIsABoundRow : OpenClaim := { program := "ytbhcaniopdgjkaa", sum := "fff6ea5cb5fa0fe4f651a3d883944bd6f36057a4aba2c98a0dda7e0d76129894", func := "scriptorium/scriptoriumlaw8.SitesWorstIsABound", spec := "sitesWorstIsABound", inPlace := ["internal/bytealg.IndexByteString", "internal/bytealg.IndexString"], unfollowed := true, recurses := true, named := ["internal/bytealg.MaxLen"], apart := false }
def SitesWorstIsABoundSaid : Prop := sitesWorstIsABoundRow.holds Try.pinned (OpenSpec.ofChange sitesWorstIsABoundSpec)

/-- ITS FALSE NEIGHBOUR: 'it returns false'. Refute it at one input. -/
def sitesWorstIsABoundWrong : ChangeSpec := { name := "sitesWorstIsABound", fn := fun _ => fun
  | [d1, d2, d3, d4] => { results := [.lit (.bool false)], args := [d1, d2, d3, d4] }
  | _ => none }
def SitesWorstIsABoundWrongFalsely : Prop := sitesWorstIsABoundRow.holds Try.pinned (OpenSpec.ofChange sitesWorstIsABoundWrong)

/-- 'scriptoriumlaw8.SitesLossesAddUp': WHATEVER THE INPUT: true; the input reads as it did. -/
def sitesLossesAddUpSpec : ChangeSpec := { name := "sitesLossesAddUp", fn := fun _ => fun
  | [d1, d2, d3, d4] => { results := [.lit (.bool true)], args := [d1, d2, d3, d4] }
  | _ => none }
def sitesLossesAddUpRow : OpenClaim := { program := "ytbhcaniopdgjkaa", sum := "fff6ea5cb5fa0fe4f651a3d883944bd6f36057a4aba2c98a0dda7e0d76129894", func := "scriptorium/scriptoriumlaw8.SitesLossesAddUp", spec := "sitesLossesAddUp", inPlace := ["internal/bytealg.IndexByteString", "internal/bytealg.IndexString"], unfollowed := true, recurses := true, named := ["internal/bytealg.MaxLen"], apart := false }
def SitesLossesAddUpSaid : Prop := sitesLossesAddUpRow.holds Try.pinned (OpenSpec.ofChange sitesLossesAddUpSpec)

/-- ITS FALSE NEIGHBOUR: 'it returns false'. Refute it at one input. -/
def sitesLossesAddUpWrong : ChangeSpec := { name := "sitesLossesAddUp", fn := fun _ => fun
  | [d1, d2, d3, d4] => { results := [.lit (.bool false)], args := [d1, d2, d3, d4] }
  | _ => none }
def SitesLossesAddUpWrongFalsely : Prop := sitesLossesAddUpRow.holds Try.pinned (OpenSpec.ofChange sitesLossesAddUpWrong)

/-- 'scriptoriumlaw8.SitesPartsAreIndependent': WHATEVER THE INPUT: true; the input reads as it did. -/
def sitesPartsAreIndependentSpec : ChangeSpec := { name := "sitesPartsAreIndependent", fn := fun _ => fun
  | [d1, d2] => { results := [.lit (.bool true)], args := [d1, d2] }
  | _ => none }
def sitesPartsAreIndependentRow : OpenClaim := { program := "ytbhcaniopdgjkaa", sum := "fff6ea5cb5fa0fe4f651a3d883944bd6f36057a4aba2c98a0dda7e0d76129894", func := "scriptorium/scriptoriumlaw8.SitesPartsAreIndependent", spec := "sitesPartsAreIndependent", inPlace := ["internal/bytealg.IndexByteString", "internal/bytealg.IndexString"], unfollowed := true, recurses := true, named := ["internal/bytealg.MaxLen"], apart := false }
def SitesPartsAreIndependentSaid : Prop := sitesPartsAreIndependentRow.holds Try.pinned (OpenSpec.ofChange sitesPartsAreIndependentSpec)

/-- ITS FALSE NEIGHBOUR: 'it returns false'. Refute it at one input. -/
def sitesPartsAreIndependentWrong : ChangeSpec := { name := "sitesPartsAreIndependent", fn := fun _ => fun
  | [d1, d2] => { results := [.lit (.bool false)], args := [d1, d2] }
  | _ => none }
def SitesPartsAreIndependentWrongFalsely : Prop := sitesPartsAreIndependentRow.holds Try.pinned (OpenSpec.ofChange sitesPartsAreIndependentWrong)

/-- 'scriptoriumlaw8.CopiesHoldsMatchesSpec': WHATEVER THE INPUT: true; the input reads as it did. -/
def copiesHoldsMatchesSpecSpec : ChangeSpec := { name := "copiesHoldsMatchesSpec", fn := fun _ => fun
  | [d1, d2, d3, d4] => { results := [.lit (.bool true)], args := [d1, d2, d3, d4] }
  | _ => none }
def copiesHoldsMatchesSpecRow : OpenClaim := { program := "ytbhcaniopdgjkaa", sum := "fff6ea5cb5fa0fe4f651a3d883944bd6f36057a4aba2c98a0dda7e0d76129894", func := "scriptorium/scriptoriumlaw8.CopiesHoldsMatchesSpec", spec := "copiesHoldsMatchesSpec", inPlace := ["internal/bytealg.IndexByteString", "internal/bytealg.IndexString"], unfollowed := true, recurses := true, named := ["internal/bytealg.MaxLen"], apart := false }
def CopiesHoldsMatchesSpecSaid : Prop := copiesHoldsMatchesSpecRow.holds Try.pinned (OpenSpec.ofChange copiesHoldsMatchesSpecSpec)

/-- ITS FALSE NEIGHBOUR: 'it returns false'. Refute it at one input. -/
def copiesHoldsMatchesSpecWrong : ChangeSpec := { name := "copiesHoldsMatchesSpec", fn := fun _ => fun
  | [d1, d2, d3, d4] => { results := [.lit (.bool false)], args := [d1, d2, d3, d4] }
  | _ => none }
def CopiesHoldsMatchesSpecWrongFalsely : Prop := copiesHoldsMatchesSpecRow.holds Try.pinned (OpenSpec.ofChange copiesHoldsMatchesSpecWrong)

/-- 'scriptoriumlaw8.CopiesPlanMatchesSpec': WHATEVER THE INPUT: true; the input reads as it did. -/
def copiesPlanMatchesSpecSpec : ChangeSpec := { name := "copiesPlanMatchesSpec", fn := fun _ => fun
  | [d1, d2, d3] => { results := [.lit (.bool true)], args := [d1, d2, d3] }
  | _ => none }
def copiesPlanMatchesSpecRow : OpenClaim := { program := "ytbhcaniopdgjkaa", sum := "fff6ea5cb5fa0fe4f651a3d883944bd6f36057a4aba2c98a0dda7e0d76129894", func := "scriptorium/scriptoriumlaw8.CopiesPlanMatchesSpec", spec := "copiesPlanMatchesSpec", inPlace := ["internal/bytealg.IndexByteString", "internal/bytealg.IndexString"], unfollowed := true, recurses := true, named := ["internal/bytealg.MaxLen"], apart := false }
def CopiesPlanMatchesSpecSaid : Prop := copiesPlanMatchesSpecRow.holds Try.pinned (OpenSpec.ofChange copiesPlanMatchesSpecSpec)

/-- ITS FALSE NEIGHBOUR: 'it returns false'. Refute it at one input. -/
def copiesPlanMatchesSpecWrong : ChangeSpec := { name := "copiesPlanMatchesSpec", fn := fun _ => fun
  | [d1, d2, d3] => { results := [.lit (.bool false)], args := [d1, d2, d3] }
  | _ => none }
def CopiesPlanMatchesSpecWrongFalsely : Prop := copiesPlanMatchesSpecRow.holds Try.pinned (OpenSpec.ofChange copiesPlanMatchesSpecWrong)

/-- 'scriptoriumlaw8.CopiesKeepersMatchSpec': WHATEVER THE INPUT: true; the input reads as it did. -/
def copiesKeepersMatchSpecSpec : ChangeSpec := { name := "copiesKeepersMatchSpec", fn := fun _ => fun
  | [d1, d2, d3] => { results := [.lit (.bool true)], args := [d1, d2, d3] }
  | _ => none }
def copiesKeepersMatchSpecRow : OpenClaim := { program := "ytbhcaniopdgjkaa", sum := "fff6ea5cb5fa0fe4f651a3d883944bd6f36057a4aba2c98a0dda7e0d76129894", func := "scriptorium/scriptoriumlaw8.CopiesKeepersMatchSpec", spec := "copiesKeepersMatchSpec", inPlace := ["internal/bytealg.IndexByteString", "internal/bytealg.IndexString"], unfollowed := true, recurses := true, named := ["internal/bytealg.MaxLen"], apart := false }
def CopiesKeepersMatchSpecSaid : Prop := copiesKeepersMatchSpecRow.holds Try.pinned (OpenSpec.ofChange copiesKeepersMatchSpecSpec)

/-- ITS FALSE NEIGHBOUR: 'it returns false'. Refute it at one input. -/
def copiesKeepersMatchSpecWrong : ChangeSpec := { name := "copiesKeepersMatchSpec", fn := fun _ => fun
  | [d1, d2, d3] => { results := [.lit (.bool false)], args := [d1, d2, d3] }
  | _ => none }
def CopiesKeepersMatchSpecWrongFalsely : Prop := copiesKeepersMatchSpecRow.holds Try.pinned (OpenSpec.ofChange copiesKeepersMatchSpecWrong)

/-- 'scriptoriumlaw8.CopiesRestoreMatchesSpec': WHATEVER THE INPUT: true; the input reads as it did. -/
def copiesRestoreMatchesSpecSpec : ChangeSpec := { name := "copiesRestoreMatchesSpec", fn := fun _ => fun
  | [d1, d2, d3, d4, d5] => { results := [.lit (.bool true)], args := [d1, d2, d3, d4, d5] }
  | _ => none }
def copiesRestoreMatchesSpecRow : OpenClaim := { program := "ytbhcaniopdgjkaa", sum := "fff6ea5cb5fa0fe4f651a3d883944bd6f36057a4aba2c98a0dda7e0d76129894", func := "scriptorium/scriptoriumlaw8.CopiesRestoreMatchesSpec", spec := "copiesRestoreMatchesSpec", inPlace := ["internal/bytealg.IndexByteString", "internal/bytealg.IndexString"], unfollowed := true, recurses := true, named := ["internal/bytealg.MaxLen"], apart := false }
def CopiesRestoreMatchesSpecSaid : Prop := copiesRestoreMatchesSpecRow.holds Try.pinned (OpenSpec.ofChange copiesRestoreMatchesSpecSpec)

/-- ITS FALSE NEIGHBOUR: 'it returns false'. Refute it at one input. -/
def copiesRestoreMatchesSpecWrong : ChangeSpec := { name := "copiesRestoreMatchesSpec", fn := fun _ => fun
  | [d1, d2, d3, d4, d5] => { results := [.lit (.bool false)], args := [d1, d2, d3, d4, d5] }
  | _ => none }
def CopiesRestoreMatchesSpecWrongFalsely : Prop := copiesRestoreMatchesSpecRow.holds Try.pinned (OpenSpec.ofChange copiesRestoreMatchesSpecWrong)

/-- 'scriptoriumlaw8.CopiesMoreSafetyCostsMore': WHATEVER THE INPUT: true; the input reads as it did. -/
def copiesMoreSafetyCostsMoreSpec : ChangeSpec := { name := "copiesMoreSafetyCostsMore", fn := fun _ => fun
  | [d1, d2, d3] => { results := [.lit (.bool true)], args := [d1, d2, d3] }
  | _ => none }
def copiesMoreSafetyCostsMoreRow : OpenClaim := { program := "ytbhcaniopdgjkaa", sum := "fff6ea5cb5fa0fe4f651a3d883944bd6f36057a4aba2c98a0dda7e0d76129894", func := "scriptorium/scriptoriumlaw8.CopiesMoreSafetyCostsMore", spec := "copiesMoreSafetyCostsMore", inPlace := ["internal/bytealg.IndexByteString", "internal/bytealg.IndexString"], unfollowed := true, recurses := true, named := ["internal/bytealg.MaxLen"], apart := false }
def CopiesMoreSafetyCostsMoreSaid : Prop := copiesMoreSafetyCostsMoreRow.holds Try.pinned (OpenSpec.ofChange copiesMoreSafetyCostsMoreSpec)

/-- ITS FALSE NEIGHBOUR: 'it returns false'. Refute it at one input. -/
def copiesMoreSafetyCostsMoreWrong : ChangeSpec := { name := "copiesMoreSafetyCostsMore", fn := fun _ => fun
  | [d1, d2, d3] => { results := [.lit (.bool false)], args := [d1, d2, d3] }
  | _ => none }
def CopiesMoreSafetyCostsMoreWrongFalsely : Prop := copiesMoreSafetyCostsMoreRow.holds Try.pinned (OpenSpec.ofChange copiesMoreSafetyCostsMoreWrong)

/-- 'scriptoriumlaw8.CopiesKeepersTellNobody': WHATEVER THE INPUT: true; the input reads as it did. -/
def copiesKeepersTellNobodySpec : ChangeSpec := { name := "copiesKeepersTellNobody", fn := fun _ => fun
  | [d1, d2, d3, d4] => { results := [.lit (.bool true)], args := [d1, d2, d3, d4] }
  | _ => none }
def copiesKeepersTellNobodyRow : OpenClaim := { program := "ytbhcaniopdgjkaa", sum := "fff6ea5cb5fa0fe4f651a3d883944bd6f36057a4aba2c98a0dda7e0d76129894", func := "scriptorium/scriptoriumlaw8.CopiesKeepersTellNobody", spec := "copiesKeepersTellNobody", inPlace := ["internal/bytealg.IndexByteString", "internal/bytealg.IndexString"], unfollowed := true, recurses := true, named := ["internal/bytealg.MaxLen"], apart := false }
def CopiesKeepersTellNobodySaid : Prop := copiesKeepersTellNobodyRow.holds Try.pinned (OpenSpec.ofChange copiesKeepersTellNobodySpec)

/-- ITS FALSE NEIGHBOUR: 'it returns false'. Refute it at one input. -/
def copiesKeepersTellNobodyWrong : ChangeSpec := { name := "copiesKeepersTellNobody", fn := fun _ => fun
  | [d1, d2, d3, d4] => { results := [.lit (.bool false)], args := [d1, d2, d3, d4] }
  | _ => none }
def CopiesKeepersTellNobodyWrongFalsely : Prop := copiesKeepersTellNobodyRow.holds Try.pinned (OpenSpec.ofChange copiesKeepersTellNobodyWrong)

/- THE SECOND FORM. 'bulk': how many values and letters a reading holds, each counted each time it is reached (what is shared counts as often as it is met; a slice's spare places count too). A statement '..UptoSaid' is the law's where the arguments, and the package variables that the reading takes, are together of bulk at most 1048576: NARROWER than '..Said'. Prove '..Said' where nothing that the law and all that it calls make is longer than what came in: it says more and counts as full. Else prove '..UptoSaid'. A law counts once. -/
mutual
def uptoBulk {H : Type} : DataW H → Nat
  | .lit (.string bytes) => bytes.length + 1
  | .lit _ => 1
  | .nil => 1
  | .ptr d => uptoBulk d + 1
  | .slice elems spare => uptoBulkAll elems + uptoBulkAll spare + 1
  | .agg parts => uptoBulkAll parts + 1
  | .iface _ d => uptoBulk d + 1
  | .map entries => uptoBulkEntries entries + 1
  | .held _ => 1
def uptoBulkAll {H : Type} : List (DataW H) → Nat
  | [] => 0
  | d :: r => uptoBulk d + uptoBulkAll r
def uptoBulkEntries {H : Type} : List (Lit × DataW H) → Nat
  | [] => 0
  | x :: r => uptoBulkEntry x + uptoBulkEntries r
def uptoBulkEntry {H : Type} : Lit × DataW H → Nat
  | (.string bytes, d) => bytes.length + uptoBulk d + 1
  | (_, d) => uptoBulk d + 1
 end
def uptoSmall : (H : Type) → List (DataW H) → Bool := fun _ ds => decide (uptoBulkAll ds ≤ 1048576)
def OpenSpec.upto (s : _root_.Go.ChangeSpec) : _root_.Go.OpenSpec := { _root_.Go.OpenSpec.ofChange s with cond := some uptoSmall }

/-- 'scriptoriumlaw8.SitesMatchSpec', WHERE WHAT IT READS IS OF BULK AT MOST 1048576: true; the input reads as it did. -/
def sitesMatchSpecUptoRow : OpenClaim := { program := "ytbhcaniopdgjkaa", sum := "fff6ea5cb5fa0fe4f651a3d883944bd6f36057a4aba2c98a0dda7e0d76129894", func := "scriptorium/scriptoriumlaw8.SitesMatchSpec", spec := "sitesMatchSpec", inPlace := ["internal/bytealg.IndexByteString", "internal/bytealg.IndexString"], unfollowed := true, recurses := true, named := ["internal/bytealg.MaxLen"], apart := false, narrowed := true }
def SitesMatchSpecUptoSaid : Prop := sitesMatchSpecUptoRow.holds Try.pinned (OpenSpec.upto sitesMatchSpecSpec)

/-- 'scriptoriumlaw8.SitesWorstMatchesSpec', WHERE WHAT IT READS IS OF BULK AT MOST 1048576: true; the input reads as it did. -/
def sitesWorstMatchesSpecUptoRow : OpenClaim := { program := "ytbhcaniopdgjkaa", sum := "fff6ea5cb5fa0fe4f651a3d883944bd6f36057a4aba2c98a0dda7e0d76129894", func := "scriptorium/scriptoriumlaw8.SitesWorstMatchesSpec", spec := "sitesWorstMatchesSpec", inPlace := ["internal/bytealg.IndexByteString", "internal/bytealg.IndexString"], unfollowed := true, recurses := true, named := ["internal/bytealg.MaxLen"], apart := false, narrowed := true }
def SitesWorstMatchesSpecUptoSaid : Prop := sitesWorstMatchesSpecUptoRow.holds Try.pinned (OpenSpec.upto sitesWorstMatchesSpecSpec)

/-- 'scriptoriumlaw8.SitesWorstIsABound', WHERE WHAT IT READS IS OF BULK AT MOST 1048576: true; the input reads as it did. -/
def sitesWorstIsABoundUptoRow : OpenClaim := { program := "ytbhcaniopdgjkaa", sum := "fff6ea5cb5fa0fe4f651a3d883944bd6f36057a4aba2c98a0dda7e0d76129894", func := "scriptorium/scriptoriumlaw8.SitesWorstIsABound", spec := "sitesWorstIsABound", inPlace := ["internal/bytealg.IndexByteString", "internal/bytealg.IndexString"], unfollowed := true, recurses := true, named := ["internal/bytealg.MaxLen"], apart := false, narrowed := true }
def SitesWorstIsABoundUptoSaid : Prop := sitesWorstIsABoundUptoRow.holds Try.pinned (OpenSpec.upto sitesWorstIsABoundSpec)

/-- 'scriptoriumlaw8.SitesLossesAddUp', WHERE WHAT IT READS IS OF BULK AT MOST 1048576: true; the input reads as it did. -/
def sitesLossesAddUpUptoRow : OpenClaim := { program := "ytbhcaniopdgjkaa", sum := "fff6ea5cb5fa0fe4f651a3d883944bd6f36057a4aba2c98a0dda7e0d76129894", func := "scriptorium/scriptoriumlaw8.SitesLossesAddUp", spec := "sitesLossesAddUp", inPlace := ["internal/bytealg.IndexByteString", "internal/bytealg.IndexString"], unfollowed := true, recurses := true, named := ["internal/bytealg.MaxLen"], apart := false, narrowed := true }
def SitesLossesAddUpUptoSaid : Prop := sitesLossesAddUpUptoRow.holds Try.pinned (OpenSpec.upto sitesLossesAddUpSpec)

/-- 'scriptoriumlaw8.SitesPartsAreIndependent', WHERE WHAT IT READS IS OF BULK AT MOST 1048576: true; the input reads as it did. -/
def sitesPartsAreIndependentUptoRow : OpenClaim := { program := "ytbhcaniopdgjkaa", sum := "fff6ea5cb5fa0fe4f651a3d883944bd6f36057a4aba2c98a0dda7e0d76129894", func := "scriptorium/scriptoriumlaw8.SitesPartsAreIndependent", spec := "sitesPartsAreIndependent", inPlace := ["internal/bytealg.IndexByteString", "internal/bytealg.IndexString"], unfollowed := true, recurses := true, named := ["internal/bytealg.MaxLen"], apart := false, narrowed := true }
def SitesPartsAreIndependentUptoSaid : Prop := sitesPartsAreIndependentUptoRow.holds Try.pinned (OpenSpec.upto sitesPartsAreIndependentSpec)

/-- 'scriptoriumlaw8.CopiesHoldsMatchesSpec', WHERE WHAT IT READS IS OF BULK AT MOST 1048576: true; the input reads as it did. -/
def copiesHoldsMatchesSpecUptoRow : OpenClaim := { program := "ytbhcaniopdgjkaa", sum := "fff6ea5cb5fa0fe4f651a3d883944bd6f36057a4aba2c98a0dda7e0d76129894", func := "scriptorium/scriptoriumlaw8.CopiesHoldsMatchesSpec", spec := "copiesHoldsMatchesSpec", inPlace := ["internal/bytealg.IndexByteString", "internal/bytealg.IndexString"], unfollowed := true, recurses := true, named := ["internal/bytealg.MaxLen"], apart := false, narrowed := true }
def CopiesHoldsMatchesSpecUptoSaid : Prop := copiesHoldsMatchesSpecUptoRow.holds Try.pinned (OpenSpec.upto copiesHoldsMatchesSpecSpec)

/-- 'scriptoriumlaw8.CopiesPlanMatchesSpec', WHERE WHAT IT READS IS OF BULK AT MOST 1048576: true; the input reads as it did. -/
def copiesPlanMatchesSpecUptoRow : OpenClaim := { program := "ytbhcaniopdgjkaa", sum := "fff6ea5cb5fa0fe4f651a3d883944bd6f36057a4aba2c98a0dda7e0d76129894", func := "scriptorium/scriptoriumlaw8.CopiesPlanMatchesSpec", spec := "copiesPlanMatchesSpec", inPlace := ["internal/bytealg.IndexByteString", "internal/bytealg.IndexString"], unfollowed := true, recurses := true, named := ["internal/bytealg.MaxLen"], apart := false, narrowed := true }
def CopiesPlanMatchesSpecUptoSaid : Prop := copiesPlanMatchesSpecUptoRow.holds Try.pinned (OpenSpec.upto copiesPlanMatchesSpecSpec)

/-- 'scriptoriumlaw8.CopiesKeepersMatchSpec', WHERE WHAT IT READS IS OF BULK AT MOST 1048576: true; the input reads as it did. -/
def copiesKeepersMatchSpecUptoRow : OpenClaim := { program := "ytbhcaniopdgjkaa", sum := "fff6ea5cb5fa0fe4f651a3d883944bd6f36057a4aba2c98a0dda7e0d76129894", func := "scriptorium/scriptoriumlaw8.CopiesKeepersMatchSpec", spec := "copiesKeepersMatchSpec", inPlace := ["internal/bytealg.IndexByteString", "internal/bytealg.IndexString"], unfollowed := true, recurses := true, named := ["internal/bytealg.MaxLen"], apart := false, narrowed := true }
def CopiesKeepersMatchSpecUptoSaid : Prop := copiesKeepersMatchSpecUptoRow.holds Try.pinned (OpenSpec.upto copiesKeepersMatchSpecSpec)

/-- 'scriptoriumlaw8.CopiesRestoreMatchesSpec', WHERE WHAT IT READS IS OF BULK AT MOST 1048576: true; the input reads as it did. -/
def copiesRestoreMatchesSpecUptoRow : OpenClaim := { program := "ytbhcaniopdgjkaa", sum := "fff6ea5cb5fa0fe4f651a3d883944bd6f36057a4aba2c98a0dda7e0d76129894", func := "scriptorium/scriptoriumlaw8.CopiesRestoreMatchesSpec", spec := "copiesRestoreMatchesSpec", inPlace := ["internal/bytealg.IndexByteString", "internal/bytealg.IndexString"], unfollowed := true, recurses := true, named := ["internal/bytealg.MaxLen"], apart := false, narrowed := true }
def CopiesRestoreMatchesSpecUptoSaid : Prop := copiesRestoreMatchesSpecUptoRow.holds Try.pinned (OpenSpec.upto copiesRestoreMatchesSpecSpec)

/-- 'scriptoriumlaw8.CopiesMoreSafetyCostsMore', WHERE WHAT IT READS IS OF BULK AT MOST 1048576: true; the input reads as it did. -/
def copiesMoreSafetyCostsMoreUptoRow : OpenClaim := { program := "ytbhcaniopdgjkaa", sum := "fff6ea5cb5fa0fe4f651a3d883944bd6f36057a4aba2c98a0dda7e0d76129894", func := "scriptorium/scriptoriumlaw8.CopiesMoreSafetyCostsMore", spec := "copiesMoreSafetyCostsMore", inPlace := ["internal/bytealg.IndexByteString", "internal/bytealg.IndexString"], unfollowed := true, recurses := true, named := ["internal/bytealg.MaxLen"], apart := false, narrowed := true }
def CopiesMoreSafetyCostsMoreUptoSaid : Prop := copiesMoreSafetyCostsMoreUptoRow.holds Try.pinned (OpenSpec.upto copiesMoreSafetyCostsMoreSpec)

/-- 'scriptoriumlaw8.CopiesKeepersTellNobody', WHERE WHAT IT READS IS OF BULK AT MOST 1048576: true; the input reads as it did. -/
def copiesKeepersTellNobodyUptoRow : OpenClaim := { program := "ytbhcaniopdgjkaa", sum := "fff6ea5cb5fa0fe4f651a3d883944bd6f36057a4aba2c98a0dda7e0d76129894", func := "scriptorium/scriptoriumlaw8.CopiesKeepersTellNobody", spec := "copiesKeepersTellNobody", inPlace := ["internal/bytealg.IndexByteString", "internal/bytealg.IndexString"], unfollowed := true, recurses := true, named := ["internal/bytealg.MaxLen"], apart := false, narrowed := true }
def CopiesKeepersTellNobodyUptoSaid : Prop := copiesKeepersTellNobodyUptoRow.holds Try.pinned (OpenSpec.upto copiesKeepersTellNobodySpec)

end Rows
end Go.Proofs.Ytbhcaniopdgjkaa
