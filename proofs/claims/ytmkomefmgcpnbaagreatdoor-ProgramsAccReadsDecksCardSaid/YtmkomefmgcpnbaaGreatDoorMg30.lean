import Derived.Test.YtmkomefmgcpnbaaGreatDoorCards
import Derived.Test.YtmkomefmgcpnbaaGreatDoorTie
import Derived.Deep.DeepHandedRow
import Derived.Lib.LaidTab
import Derived.ChangeMaps5
import Derived.ChangeArms
import Derived.Clock
import Derived.Lay
import Derived.MakeChecks
import Derived.Stop.Joined
set_option linter.all false
set_option maxHeartbeats 12800000
set_option maxRecDepth 100000
namespace Go.Proofs.YtmkomefmgcpnbaaGreatDoor
open Go Go.ChangeShapes Go.WideShapes Go.ChangeAt Go.RowKit Go.Clock
open Go.Proofs.Tryz renaming f3→E8
theorem own:ownKnob Tryz.prog.godebug=none:=by kernel_rfl
theorem laidOut:laidOutB Tryz.prog=true:=by kernel_rfl
theorem yR:joinedFacts Tryz.pinned.checked.prog 3 E8 Rows.programsAccReadsDecksSpec Rows.programsAccReadsDecksRow=true:=by kernel_rfl
theorem za0:Tryz.pinned.checked.prog.funcNamed Rows.programsAccReadsDecksRow.func=some 3:=by kernel_rfl
theorem za1:E8.isInstance Tryz.pinned.checked.prog Rows.programsAccReadsDecksRow.origin Rows.programsAccReadsDecksRow.targs:=of_decide_eq_true (by kernel_rfl)
theorem za2:E8.isWrapper Tryz.pinned.checked.prog Rows.programsAccReadsDecksRow.wrapper Rows.programsAccReadsDecksRow.mainSum:=by unfold Func.isWrapper;first|(rw [if_pos (by decide+kernel)];kernel_rfl)|(rw [if_neg (by decide+kernel)];exact⟨rfl,rfl⟩)
end Go.Proofs.YtmkomefmgcpnbaaGreatDoor
