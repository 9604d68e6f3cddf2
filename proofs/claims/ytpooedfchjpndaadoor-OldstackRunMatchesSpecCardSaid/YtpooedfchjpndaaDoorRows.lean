/-
  NARROWER THAN 'FOR EVERY INPUT', by the rows' own cells (each row's printed sentence says how): OldstackRunMatchesSpec: laid · OldstackRunsAddUp: laid · OldstackStopsChangeNothing: laid · OldstackStreamsGoOn: laid.
  DERIVED. THE GIVEN ROWS OF THIS SEAT. 4 by the template 'for every input the law returns true; each argument reads behind the call as it read before'; 0 by the template 'total and deterministic' (their statements: YtpooedfchjpndaaDoorTotals.lean).
  GIVEN WITH THE SEED: the statements are not yours to turn. If you find one false, say at which input.
  Laid BY PROGRAM, IN A SANDBOX (cutbox-rows.mjs): the forced cells as the released guide's own fill.sh prints them over the translation 42bdc8f2c2821be2… (all of the seat's roots in one cut). By AI agents, Wed Nov 11 2026. No macro, syntax, notation, axiom, sorry.
-/
import Derived.Test.YtpooedfchjpndaaDoorChecked
import GoSem.Claim
import GoSem.ClaimJoined
import GoSem.ClaimMapViews
import Derived.JoinedTies
import Derived.KernelRfl
namespace Go.Proofs.YtpooedfchjpndaaDoor
/- THE CELL 'sum', in the pinned program and in every row, IS THE sha256 OF THE DUMP (.gsa) THAT YtpooedfchjpndaaDoorProg.lean LOADS. Nothing in Lean hashes anything: it is a label: what it is worth is what the hold of that sum in a sandbox is worth. -/
noncomputable def Tryd.pinned : Pinned := { name := "ytpooedfchjpndaadoor", sum := "42bdc8f2c2821be288061150c04f0e3c60d8dd4e9ef9ed434b9504a8b8314469", checked := Tryd.checked }
namespace Rows
def none {H : Type} : Left H := { results := [], args := [] }

/- WHAT THE LISTED PACKAGE-LEVEL VARIABLES READ AS WHEN THE CALL BEGINS. Each datum BY PROGRAM (the guide's laid-datum.mjs) off the statement by which the dump's own 'gosem.cut.vars' lays the variable. In a bare row this is a premise. The card (YtpooedfchjpndaaDoorCards.lean) ties it to the program's text. -/
def laid_scriptorium_oldstack_takes {H : Type} : DataW H := .agg [.lit (.int .i64 0), .lit (.int .i64 0), .lit (.int .i64 1), .lit (.int .i64 1), .lit (.int .i64 2), .lit (.int .i64 2), .lit (.int .i64 2), .lit (.int .i64 2), .lit (.int .i64 2), .lit (.int .i64 2), .lit (.int .i64 2), .lit (.int .i64 2), .lit (.int .i64 2), .lit (.int .i64 2), .lit (.int .i64 2), .lit (.int .i64 2), .lit (.int .i64 0), .lit (.int .i64 1), .lit (.int .i64 0), .lit (.int .i64 0), .lit (.int .i64 1), .lit (.int .i64 2), .lit (.int .i64 0), .lit (.int .i64 1)]
def laid_scriptorium_oldstack_leaves {H : Type} : DataW H := .agg [.lit (.int .i64 0), .lit (.int .i64 1), .lit (.int .i64 2), .lit (.int .i64 0), .lit (.int .i64 2), .lit (.int .i64 3), .lit (.int .i64 1), .lit (.int .i64 1), .lit (.int .i64 1), .lit (.int .i64 1), .lit (.int .i64 1), .lit (.int .i64 1), .lit (.int .i64 1), .lit (.int .i64 1), .lit (.int .i64 1), .lit (.int .i64 1), .lit (.int .i64 0), .lit (.int .i64 0), .lit (.int .i64 0), .lit (.int .i64 0), .lit (.int .i64 1), .lit (.int .i64 0), .lit (.int .i64 1), .lit (.int .i64 0)]

/-- 'scriptoriumlaw8.OldstackRunMatchesSpec': WHATEVER THE INPUT: true; the input reads as it did. -/
def oldstackRunMatchesSpecSpec : ChangeSpec := { name := "oldstackRunMatchesSpec", fn := fun _ => fun
  | [d1, d2, d3, d4] => { results := [.lit (.bool true)], args := [d1, d2, d3, d4] }
  | _ => none }
def oldstackRunMatchesSpecRow : OpenClaim := { program := "ytpooedfchjpndaadoor", sum := "42bdc8f2c2821be288061150c04f0e3c60d8dd4e9ef9ed434b9504a8b8314469", func := "scriptorium/scriptoriumlaw8.OldstackRunMatchesSpec", spec := "oldstackRunMatchesSpec", unfollowed := true, recurses := true, named := ["scriptorium/oldstack.takes", "scriptorium/oldstack.leaves"], apart := false, laid := [("scriptorium/oldstack.takes", laid_scriptorium_oldstack_takes), ("scriptorium/oldstack.leaves", laid_scriptorium_oldstack_leaves)] }
def OldstackRunMatchesSpecSaid : Prop := oldstackRunMatchesSpecRow.holds Tryd.pinned (OpenSpec.ofChange oldstackRunMatchesSpecSpec)

/-- ITS FALSE NEIGHBOUR: 'it returns false'. Refute it at one input. -/
def oldstackRunMatchesSpecWrong : ChangeSpec := { name := "oldstackRunMatchesSpec", fn := fun _ => fun
  | [d1, d2, d3, d4] => { results := [.lit (.bool false)], args := [d1, d2, d3, d4] }
  | _ => none }
def OldstackRunMatchesSpecWrongFalsely : Prop := oldstackRunMatchesSpecRow.holds Tryd.pinned (OpenSpec.ofChange oldstackRunMatchesSpecWrong)

/-- 'scriptoriumlaw8.OldstackRunsAddUp': WHATEVER THE INPUT: true; the input reads as it did. -/
def oldstackRunsAddUpSpec : ChangeSpec := { name := "oldstackRunsAddUp", fn := fun _ => fun
  | [d1, d2, d3] => { results := [.lit (.bool true)], args := [d1, d2, d3] }
  | _ => none }
def oldstackRunsAddUpRow : OpenClaim := { program := "ytpooedfchjpndaadoor", sum := "42bdc8f2c2821be288061150c04f0e3c60d8dd4e9ef9ed434b9504a8b8314469", func := "scriptorium/scriptoriumlaw8.OldstackRunsAddUp", spec := "oldstackRunsAddUp", unfollowed := true, recurses := true, named := ["scriptorium/oldstack.takes", "scriptorium/oldstack.leaves"], apart := false, laid := [("scriptorium/oldstack.takes", laid_scriptorium_oldstack_takes), ("scriptorium/oldstack.leaves", laid_scriptorium_oldstack_leaves)] }
def OldstackRunsAddUpSaid : Prop := oldstackRunsAddUpRow.holds Tryd.pinned (OpenSpec.ofChange oldstackRunsAddUpSpec)

/-- ITS FALSE NEIGHBOUR: 'it returns false'. Refute it at one input. -/
def oldstackRunsAddUpWrong : ChangeSpec := { name := "oldstackRunsAddUp", fn := fun _ => fun
  | [d1, d2, d3] => { results := [.lit (.bool false)], args := [d1, d2, d3] }
  | _ => none }
def OldstackRunsAddUpWrongFalsely : Prop := oldstackRunsAddUpRow.holds Tryd.pinned (OpenSpec.ofChange oldstackRunsAddUpWrong)

/-- 'scriptoriumlaw8.OldstackStopsChangeNothing': WHATEVER THE INPUT: true; the input reads as it did. -/
def oldstackStopsChangeNothingSpec : ChangeSpec := { name := "oldstackStopsChangeNothing", fn := fun _ => fun
  | [d] => { results := [.lit (.bool true)], args := [d] }
  | _ => none }
def oldstackStopsChangeNothingRow : OpenClaim := { program := "ytpooedfchjpndaadoor", sum := "42bdc8f2c2821be288061150c04f0e3c60d8dd4e9ef9ed434b9504a8b8314469", func := "scriptorium/scriptoriumlaw8.OldstackStopsChangeNothing", spec := "oldstackStopsChangeNothing", unfollowed := true, recurses := true, named := ["scriptorium/oldstack.takes", "scriptorium/oldstack.leaves"], apart := false, laid := [("scriptorium/oldstack.takes", laid_scriptorium_oldstack_takes), ("scriptorium/oldstack.leaves", laid_scriptorium_oldstack_leaves)] }
def OldstackStopsChangeNothingSaid : Prop := oldstackStopsChangeNothingRow.holds Tryd.pinned (OpenSpec.ofChange oldstackStopsChangeNothingSpec)

/-- ITS FALSE NEIGHBOUR: 'it returns false'. Refute it at one input. -/
def oldstackStopsChangeNothingWrong : ChangeSpec := { name := "oldstackStopsChangeNothing", fn := fun _ => fun
  | [d] => { results := [.lit (.bool false)], args := [d] }
  | _ => none }
def OldstackStopsChangeNothingWrongFalsely : Prop := oldstackStopsChangeNothingRow.holds Tryd.pinned (OpenSpec.ofChange oldstackStopsChangeNothingWrong)

/-- 'scriptoriumlaw8.OldstackStreamsGoOn': WHATEVER THE INPUT: true; the input reads as it did. -/
def oldstackStreamsGoOnSpec : ChangeSpec := { name := "oldstackStreamsGoOn", fn := fun _ => fun
  | [d1, d2] => { results := [.lit (.bool true)], args := [d1, d2] }
  | _ => none }
def oldstackStreamsGoOnRow : OpenClaim := { program := "ytpooedfchjpndaadoor", sum := "42bdc8f2c2821be288061150c04f0e3c60d8dd4e9ef9ed434b9504a8b8314469", func := "scriptorium/scriptoriumlaw8.OldstackStreamsGoOn", spec := "oldstackStreamsGoOn", unfollowed := true, recurses := true, named := ["scriptorium/oldstack.takes", "scriptorium/oldstack.leaves"], apart := false, laid := [("scriptorium/oldstack.takes", laid_scriptorium_oldstack_takes), ("scriptorium/oldstack.leaves", laid_scriptorium_oldstack_leaves)] }
def OldstackStreamsGoOnSaid : Prop := oldstackStreamsGoOnRow.holds Tryd.pinned (OpenSpec.ofChange oldstackStreamsGoOnSpec)

/-- ITS FALSE NEIGHBOUR: 'it returns false'. Refute it at one input. -/
def oldstackStreamsGoOnWrong : ChangeSpec := { name := "oldstackStreamsGoOn", fn := fun _ => fun
  | [d1, d2] => { results := [.lit (.bool false)], args := [d1, d2] }
  | _ => none }
def OldstackStreamsGoOnWrongFalsely : Prop := oldstackStreamsGoOnRow.holds Tryd.pinned (OpenSpec.ofChange oldstackStreamsGoOnWrong)

/- THE SECOND FORM. 'bulk': how many values and letters a reading holds, each counted each time it is reached (what is shared counts as often as it is met; a slice's spare places count too). A statement '..UptoSaid' is the law's where the arguments, and the package variables that the reading takes, are together of bulk at most 1048576: NARROWER than '..Said'. Prove '..Said' where nothing that the law and all that it calls make is longer than what came in: it says more and counts as full. Else prove '..UptoSaid'. A law counts once. -/
mutual
def uptoBulk {H : Type} : DataW H → Nat
  | .lit (.string bytes) => bytes.length + 1
  | .lit _ => 1
  | .nil => 1
  | .ptr d => uptoBulk d + 1
  | .slice elems spare => uptoBulkAll elems + uptoBulkAll spare + 1
  | .agg parts => uptoBulkAll parts + 1
  | .iface _ d => uptoBulk d + 1
  | .map entries => uptoBulkEntries entries + 1
  | .held _ => 1
def uptoBulkAll {H : Type} : List (DataW H) → Nat
  | [] => 0
  | d :: r => uptoBulk d + uptoBulkAll r
def uptoBulkEntries {H : Type} : List (Lit × DataW H) → Nat
  | [] => 0
  | x :: r => uptoBulkEntry x + uptoBulkEntries r
def uptoBulkEntry {H : Type} : Lit × DataW H → Nat
  | (.string bytes, d) => bytes.length + uptoBulk d + 1
  | (_, d) => uptoBulk d + 1
 end
def uptoSmall : (H : Type) → List (DataW H) → Bool := fun _ ds => decide (uptoBulkAll ds ≤ 1048576)
def OpenSpec.upto (s : _root_.Go.ChangeSpec) : _root_.Go.OpenSpec := { _root_.Go.OpenSpec.ofChange s with cond := some uptoSmall }

/-- 'scriptoriumlaw8.OldstackRunMatchesSpec', WHERE WHAT IT READS IS OF BULK AT MOST 1048576: true; the input reads as it did. -/
def oldstackRunMatchesSpecUptoRow : OpenClaim := { program := "ytpooedfchjpndaadoor", sum := "42bdc8f2c2821be288061150c04f0e3c60d8dd4e9ef9ed434b9504a8b8314469", func := "scriptorium/scriptoriumlaw8.OldstackRunMatchesSpec", spec := "oldstackRunMatchesSpec", unfollowed := true, recurses := true, named := ["scriptorium/oldstack.takes", "scriptorium/oldstack.leaves"], apart := false, laid := [("scriptorium/oldstack.takes", laid_scriptorium_oldstack_takes), ("scriptorium/oldstack.leaves", laid_scriptorium_oldstack_leaves)], narrowed := true }
def OldstackRunMatchesSpecUptoSaid : Prop := oldstackRunMatchesSpecUptoRow.holds Tryd.pinned (OpenSpec.upto oldstackRunMatchesSpecSpec)

/-- 'scriptoriumlaw8.OldstackRunsAddUp', WHERE WHAT IT READS IS OF BULK AT MOST 1048576: true; the input reads as it did. -/
def oldstackRunsAddUpUptoRow : OpenClaim := { program := "ytpooedfchjpndaadoor", sum := "42bdc8f2c2821be288061150c04f0e3c60d8dd4e9ef9ed434b9504a8b8314469", func := "scriptorium/scriptoriumlaw8.OldstackRunsAddUp", spec := "oldstackRunsAddUp", unfollowed := true, recurses := true, named := ["scriptorium/oldstack.takes", "scriptorium/oldstack.leaves"], apart := false, laid := [("scriptorium/oldstack.takes", laid_scriptorium_oldstack_takes), ("scriptorium/oldstack.leaves", laid_scriptorium_oldstack_leaves)], narrowed := true }
def OldstackRunsAddUpUptoSaid : Prop := oldstackRunsAddUpUptoRow.holds Tryd.pinned (OpenSpec.upto oldstackRunsAddUpSpec)

/-- 'scriptoriumlaw8.OldstackStopsChangeNothing', WHERE WHAT IT READS IS OF BULK AT MOST 1048576: true; the input reads as it did. -/
def oldstackStopsChangeNothingUptoRow : OpenClaim := { program := "ytpooedfchjpndaadoor", sum := "42bdc8f2c2821be288061150c04f0e3c60d8dd4e9ef9ed434b9504a8b8314469", func := "scriptorium/scriptoriumlaw8.OldstackStopsChangeNothing", spec := "oldstackStopsChangeNothing", unfollowed := true, recurses := true, named := ["scriptorium/oldstack.takes", "scriptorium/oldstack.leaves"], apart := false, laid := [("scriptorium/oldstack.takes", laid_scriptorium_oldstack_takes), ("scriptorium/oldstack.leaves", laid_scriptorium_oldstack_leaves)], narrowed := true }
def OldstackStopsChangeNothingUptoSaid : Prop := oldstackStopsChangeNothingUptoRow.holds Tryd.pinned (OpenSpec.upto oldstackStopsChangeNothingSpec)

/-- 'scriptoriumlaw8.OldstackStreamsGoOn', WHERE WHAT IT READS IS OF BULK AT MOST 1048576: true; the input reads as it did. -/
def oldstackStreamsGoOnUptoRow : OpenClaim := { program := "ytpooedfchjpndaadoor", sum := "42bdc8f2c2821be288061150c04f0e3c60d8dd4e9ef9ed434b9504a8b8314469", func := "scriptorium/scriptoriumlaw8.OldstackStreamsGoOn", spec := "oldstackStreamsGoOn", unfollowed := true, recurses := true, named := ["scriptorium/oldstack.takes", "scriptorium/oldstack.leaves"], apart := false, laid := [("scriptorium/oldstack.takes", laid_scriptorium_oldstack_takes), ("scriptorium/oldstack.leaves", laid_scriptorium_oldstack_leaves)], narrowed := true }
def OldstackStreamsGoOnUptoSaid : Prop := oldstackStreamsGoOnUptoRow.holds Tryd.pinned (OpenSpec.upto oldstackStreamsGoOnSpec)

end Rows
end Go.Proofs.YtpooedfchjpndaaDoor
