/-
  No cell of these rows narrows 'for every input' (looked for: loops, veiled, ifaces, maps, wideKeys, modest, calm, conditions, laid).
  DERIVED. THE GIVEN ROWS OF THIS SEAT. 6 by the template 'for every input the law returns true; each argument reads behind the call as it read before'; 0 by the template 'total and deterministic' (their statements: YtnijfndpefkoeaaTotals.lean).
  GIVEN WITH THE SEED: the statements are not yours to turn. If you find one false, say at which input.
  Laid BY PROGRAM, IN A SANDBOX (cutbox-rows.mjs): the forced cells as the released guide's own fill.sh prints them over the translation 08e79352a626959b… (all of the seat's roots in one cut). By AI agents, Wed Nov 11 2026. No macro, syntax, notation, axiom, sorry.
-/
import Derived.Test.YtnijfndpefkoeaaChecked
import GoSem.Claim
import GoSem.ClaimJoined
import GoSem.ClaimMapViews
import Derived.JoinedTies
import Derived.KernelRfl
namespace Go.Proofs.Ytnijfndpefkoeaa
/- THE CELL 'sum', in the pinned program and in every row, IS THE sha256 OF THE DUMP (.gsa) THAT YtnijfndpefkoeaaProg.lean LOADS. Nothing in Lean hashes anything: it is a label: what it is worth is what the hold of that sum in a sandbox is worth. -/
noncomputable def Try.pinned : Pinned := { name := "ytnijfndpefkoeaa", sum := "08e79352a626959bd7e330733afc870776f5232a362dda7eff421db58ef4c5ce", checked := Try.checked }
namespace Rows
def none {H : Type} : Left H := { results := [], args := [] }

/-- 'scriptoriumlaw8.RenewalPlanMatchesSpec': WHATEVER THE INPUT: true; the input reads as it did. -/
def renewalPlanMatchesSpecSpec : ChangeSpec := { name := "renewalPlanMatchesSpec", fn := fun _ => fun
  | [d1, d2, d3] => { results := [.lit (.bool true)], args := [d1, d2, d3] }
  | _ => none }
def renewalPlanMatchesSpecRow : OpenClaim := { program := "ytnijfndpefkoeaa", sum := "08e79352a626959bd7e330733afc870776f5232a362dda7eff421db58ef4c5ce", func := "scriptorium/scriptoriumlaw8.RenewalPlanMatchesSpec", spec := "renewalPlanMatchesSpec", inPlace := ["slices.overlaps[int]"], unfollowed := true, recurses := true, apart := false }
def RenewalPlanMatchesSpecSaid : Prop := renewalPlanMatchesSpecRow.holds Try.pinned (OpenSpec.ofChange renewalPlanMatchesSpecSpec)

/-- ITS FALSE NEIGHBOUR: 'it returns false'. Refute it at one input. -/
def renewalPlanMatchesSpecWrong : ChangeSpec := { name := "renewalPlanMatchesSpec", fn := fun _ => fun
  | [d1, d2, d3] => { results := [.lit (.bool false)], args := [d1, d2, d3] }
  | _ => none }
def RenewalPlanMatchesSpecWrongFalsely : Prop := renewalPlanMatchesSpecRow.holds Try.pinned (OpenSpec.ofChange renewalPlanMatchesSpecWrong)

/-- 'scriptoriumlaw8.RenewalPlanIsInTime': WHATEVER THE INPUT: true; the input reads as it did. -/
def renewalPlanIsInTimeSpec : ChangeSpec := { name := "renewalPlanIsInTime", fn := fun _ => fun
  | [d1, d2] => { results := [.lit (.bool true)], args := [d1, d2] }
  | _ => none }
def renewalPlanIsInTimeRow : OpenClaim := { program := "ytnijfndpefkoeaa", sum := "08e79352a626959bd7e330733afc870776f5232a362dda7eff421db58ef4c5ce", func := "scriptorium/scriptoriumlaw8.RenewalPlanIsInTime", spec := "renewalPlanIsInTime", inPlace := ["slices.overlaps[int]"], unfollowed := true, recurses := true, apart := false }
def RenewalPlanIsInTimeSaid : Prop := renewalPlanIsInTimeRow.holds Try.pinned (OpenSpec.ofChange renewalPlanIsInTimeSpec)

/-- ITS FALSE NEIGHBOUR: 'it returns false'. Refute it at one input. -/
def renewalPlanIsInTimeWrong : ChangeSpec := { name := "renewalPlanIsInTime", fn := fun _ => fun
  | [d1, d2] => { results := [.lit (.bool false)], args := [d1, d2] }
  | _ => none }
def RenewalPlanIsInTimeWrongFalsely : Prop := renewalPlanIsInTimeRow.holds Try.pinned (OpenSpec.ofChange renewalPlanIsInTimeWrong)

/-- 'scriptoriumlaw8.RenewalFailsOnlyIfAllPlansDo': WHATEVER THE INPUT: true; the input reads as it did. -/
def renewalFailsOnlyIfAllPlansDoSpec : ChangeSpec := { name := "renewalFailsOnlyIfAllPlansDo", fn := fun _ => fun
  | [d1, d2] => { results := [.lit (.bool true)], args := [d1, d2] }
  | _ => none }
def renewalFailsOnlyIfAllPlansDoRow : OpenClaim := { program := "ytnijfndpefkoeaa", sum := "08e79352a626959bd7e330733afc870776f5232a362dda7eff421db58ef4c5ce", func := "scriptorium/scriptoriumlaw8.RenewalFailsOnlyIfAllPlansDo", spec := "renewalFailsOnlyIfAllPlansDo", inPlace := ["slices.overlaps[int]"], unfollowed := true, recurses := true, apart := false }
def RenewalFailsOnlyIfAllPlansDoSaid : Prop := renewalFailsOnlyIfAllPlansDoRow.holds Try.pinned (OpenSpec.ofChange renewalFailsOnlyIfAllPlansDoSpec)

/-- ITS FALSE NEIGHBOUR: 'it returns false'. Refute it at one input. -/
def renewalFailsOnlyIfAllPlansDoWrong : ChangeSpec := { name := "renewalFailsOnlyIfAllPlansDo", fn := fun _ => fun
  | [d1, d2] => { results := [.lit (.bool false)], args := [d1, d2] }
  | _ => none }
def RenewalFailsOnlyIfAllPlansDoWrongFalsely : Prop := renewalFailsOnlyIfAllPlansDoRow.holds Try.pinned (OpenSpec.ofChange renewalFailsOnlyIfAllPlansDoWrong)

/-- 'scriptoriumlaw8.RenewalCapacityIsLeast': WHATEVER THE INPUT: true; the input reads as it did. -/
def renewalCapacityIsLeastSpec : ChangeSpec := { name := "renewalCapacityIsLeast", fn := fun _ => fun
  | [d] => { results := [.lit (.bool true)], args := [d] }
  | _ => none }
def renewalCapacityIsLeastRow : OpenClaim := { program := "ytnijfndpefkoeaa", sum := "08e79352a626959bd7e330733afc870776f5232a362dda7eff421db58ef4c5ce", func := "scriptorium/scriptoriumlaw8.RenewalCapacityIsLeast", spec := "renewalCapacityIsLeast", inPlace := ["slices.overlaps[int]"], unfollowed := true, recurses := true, apart := false }
def RenewalCapacityIsLeastSaid : Prop := renewalCapacityIsLeastRow.holds Try.pinned (OpenSpec.ofChange renewalCapacityIsLeastSpec)

/-- ITS FALSE NEIGHBOUR: 'it returns false'. Refute it at one input. -/
def renewalCapacityIsLeastWrong : ChangeSpec := { name := "renewalCapacityIsLeast", fn := fun _ => fun
  | [d] => { results := [.lit (.bool false)], args := [d] }
  | _ => none }
def RenewalCapacityIsLeastWrongFalsely : Prop := renewalCapacityIsLeastRow.holds Try.pinned (OpenSpec.ofChange renewalCapacityIsLeastWrong)

/-- 'scriptoriumlaw8.RenewalCheapestMatchesSpec': WHATEVER THE INPUT: true; the input reads as it did. -/
def renewalCheapestMatchesSpecSpec : ChangeSpec := { name := "renewalCheapestMatchesSpec", fn := fun _ => fun
  | [d1, d2] => { results := [.lit (.bool true)], args := [d1, d2] }
  | _ => none }
def renewalCheapestMatchesSpecRow : OpenClaim := { program := "ytnijfndpefkoeaa", sum := "08e79352a626959bd7e330733afc870776f5232a362dda7eff421db58ef4c5ce", func := "scriptorium/scriptoriumlaw8.RenewalCheapestMatchesSpec", spec := "renewalCheapestMatchesSpec", inPlace := ["slices.overlaps[int]"], unfollowed := true, recurses := true, apart := false }
def RenewalCheapestMatchesSpecSaid : Prop := renewalCheapestMatchesSpecRow.holds Try.pinned (OpenSpec.ofChange renewalCheapestMatchesSpecSpec)

/-- ITS FALSE NEIGHBOUR: 'it returns false'. Refute it at one input. -/
def renewalCheapestMatchesSpecWrong : ChangeSpec := { name := "renewalCheapestMatchesSpec", fn := fun _ => fun
  | [d1, d2] => { results := [.lit (.bool false)], args := [d1, d2] }
  | _ => none }
def RenewalCheapestMatchesSpecWrongFalsely : Prop := renewalCheapestMatchesSpecRow.holds Try.pinned (OpenSpec.ofChange renewalCheapestMatchesSpecWrong)

/-- 'scriptoriumlaw8.RenewalNothingIsCheaper': WHATEVER THE INPUT: true; the input reads as it did. -/
def renewalNothingIsCheaperSpec : ChangeSpec := { name := "renewalNothingIsCheaper", fn := fun _ => fun
  | [d1, d2, d3] => { results := [.lit (.bool true)], args := [d1, d2, d3] }
  | _ => none }
def renewalNothingIsCheaperRow : OpenClaim := { program := "ytnijfndpefkoeaa", sum := "08e79352a626959bd7e330733afc870776f5232a362dda7eff421db58ef4c5ce", func := "scriptorium/scriptoriumlaw8.RenewalNothingIsCheaper", spec := "renewalNothingIsCheaper", inPlace := ["slices.overlaps[int]"], unfollowed := true, recurses := true, apart := false }
def RenewalNothingIsCheaperSaid : Prop := renewalNothingIsCheaperRow.holds Try.pinned (OpenSpec.ofChange renewalNothingIsCheaperSpec)

/-- ITS FALSE NEIGHBOUR: 'it returns false'. Refute it at one input. -/
def renewalNothingIsCheaperWrong : ChangeSpec := { name := "renewalNothingIsCheaper", fn := fun _ => fun
  | [d1, d2, d3] => { results := [.lit (.bool false)], args := [d1, d2, d3] }
  | _ => none }
def RenewalNothingIsCheaperWrongFalsely : Prop := renewalNothingIsCheaperRow.holds Try.pinned (OpenSpec.ofChange renewalNothingIsCheaperWrong)

/- THE SECOND FORM. 'bulk': how many values and letters a reading holds, each counted each time it is reached (what is shared counts as often as it is met; a slice's spare places count too). A statement '..UptoSaid' is the law's where the arguments, and the package variables that the reading takes, are together of bulk at most 1048576: NARROWER than '..Said'. Prove '..Said' where nothing that the law and all that it calls make is longer than what came in: it says more and counts as full. Else prove '..UptoSaid'. A law counts once. -/
mutual
def uptoBulk {H : Type} : DataW H → Nat
  | .lit (.string bytes) => bytes.length + 1
  | .lit _ => 1
  | .nil => 1
  | .ptr d => uptoBulk d + 1
  | .slice elems spare => uptoBulkAll elems + uptoBulkAll spare + 1
  | .agg parts => uptoBulkAll parts + 1
  | .iface _ d => uptoBulk d + 1
  | .map entries => uptoBulkEntries entries + 1
  | .held _ => 1
def uptoBulkAll {H : Type} : List (DataW H) → Nat
  | [] => 0
  | d :: r => uptoBulk d + uptoBulkAll r
def uptoBulkEntries {H : Type} : List (Lit × DataW H) → Nat
  | [] => 0
  | x :: r => uptoBulkEntry x + uptoBulkEntries r
def uptoBulkEntry {H : Type} : Lit × DataW H → Nat
  | (.string bytes, d) => bytes.length + uptoBulk d + 1
  | (_, d) => uptoBulk d + 1
 end
def uptoSmall : (H : Type) → List (DataW H) → Bool := fun _ ds => decide (uptoBulkAll ds ≤ 1048576)
def OpenSpec.upto (s : _root_.Go.ChangeSpec) : _root_.Go.OpenSpec := { _root_.Go.OpenSpec.ofChange s with cond := some uptoSmall }

/-- 'scriptoriumlaw8.RenewalPlanMatchesSpec', WHERE WHAT IT READS IS OF BULK AT MOST 1048576: true; the input reads as it did. -/
def renewalPlanMatchesSpecUptoRow : OpenClaim := { program := "ytnijfndpefkoeaa", sum := "08e79352a626959bd7e330733afc870776f5232a362dda7eff421db58ef4c5ce", func := "scriptorium/scriptoriumlaw8.RenewalPlanMatchesSpec", spec := "renewalPlanMatchesSpec", inPlace := ["slices.overlaps[int]"], unfollowed := true, recurses := true, apart := false, narrowed := true }
def RenewalPlanMatchesSpecUptoSaid : Prop := renewalPlanMatchesSpecUptoRow.holds Try.pinned (OpenSpec.upto renewalPlanMatchesSpecSpec)

/-- 'scriptoriumlaw8.RenewalPlanIsInTime', WHERE WHAT IT READS IS OF BULK AT MOST 1048576: true; the input reads as it did. -/
def renewalPlanIsInTimeUptoRow : OpenClaim := { program := "ytnijfndpefkoeaa", sum := "08e79352a626959bd7e330733afc870776f5232a362dda7eff421db58ef4c5ce", func := "scriptorium/scriptoriumlaw8.RenewalPlanIsInTime", spec := "renewalPlanIsInTime", inPlace := ["slices.overlaps[int]"], unfollowed := true, recurses := true, apart := false, narrowed := true }
def RenewalPlanIsInTimeUptoSaid : Prop := renewalPlanIsInTimeUptoRow.holds Try.pinned (OpenSpec.upto renewalPlanIsInTimeSpec)

/-- 'scriptoriumlaw8.RenewalFailsOnlyIfAllPlansDo', WHERE WHAT IT READS IS OF BULK AT MOST 1048576: true; the input reads as it did. -/
def renewalFailsOnlyIfAllPlansDoUptoRow : OpenClaim := { program := "ytnijfndpefkoeaa", sum := "08e79352a626959bd7e330733afc870776f5232a362dda7eff421db58ef4c5ce", func := "scriptorium/scriptoriumlaw8.RenewalFailsOnlyIfAllPlansDo", spec := "renewalFailsOnlyIfAllPlansDo", inPlace := ["slices.overlaps[int]"], unfollowed := true, recurses := true, apart := false, narrowed := true }
def RenewalFailsOnlyIfAllPlansDoUptoSaid : Prop := renewalFailsOnlyIfAllPlansDoUptoRow.holds Try.pinned (OpenSpec.upto renewalFailsOnlyIfAllPlansDoSpec)

/-- 'scriptoriumlaw8.RenewalCapacityIsLeast', WHERE WHAT IT READS IS OF BULK AT MOST 1048576: true; the input reads as it did. -/
def renewalCapacityIsLeastUptoRow : OpenClaim := { program := "ytnijfndpefkoeaa", sum := "08e79352a626959bd7e330733afc870776f5232a362dda7eff421db58ef4c5ce", func := "scriptorium/scriptoriumlaw8.RenewalCapacityIsLeast", spec := "renewalCapacityIsLeast", inPlace := ["slices.overlaps[int]"], unfollowed := true, recurses := true, apart := false, narrowed := true }
def RenewalCapacityIsLeastUptoSaid : Prop := renewalCapacityIsLeastUptoRow.holds Try.pinned (OpenSpec.upto renewalCapacityIsLeastSpec)

/-- 'scriptoriumlaw8.RenewalCheapestMatchesSpec', WHERE WHAT IT READS IS OF BULK AT MOST 1048576: true; the input reads as it did. -/
def renewalCheapestMatchesSpecUptoRow : OpenClaim := { program := "ytnijfndpefkoeaa", sum := "08e79352a626959bd7e330733afc870776f5232a362dda7eff421db58ef4c5ce", func := "scriptorium/scriptoriumlaw8.RenewalCheapestMatchesSpec", spec := "renewalCheapestMatchesSpec", inPlace := ["slices.overlaps[int]"], unfollowed := true, recurses := true, apart := false, narrowed := true }
def RenewalCheapestMatchesSpecUptoSaid : Prop := renewalCheapestMatchesSpecUptoRow.holds Try.pinned (OpenSpec.upto renewalCheapestMatchesSpecSpec)

/-- 'scriptoriumlaw8.RenewalNothingIsCheaper', WHERE WHAT IT READS IS OF BULK AT MOST 1048576: true; the input reads as it did. -/
def renewalNothingIsCheaperUptoRow : OpenClaim := { program := "ytnijfndpefkoeaa", sum := "08e79352a626959bd7e330733afc870776f5232a362dda7eff421db58ef4c5ce", func := "scriptorium/scriptoriumlaw8.RenewalNothingIsCheaper", spec := "renewalNothingIsCheaper", inPlace := ["slices.overlaps[int]"], unfollowed := true, recurses := true, apart := false, narrowed := true }
def RenewalNothingIsCheaperUptoSaid : Prop := renewalNothingIsCheaperUptoRow.holds Try.pinned (OpenSpec.upto renewalNothingIsCheaperSpec)

end Rows
end Go.Proofs.Ytnijfndpefkoeaa
