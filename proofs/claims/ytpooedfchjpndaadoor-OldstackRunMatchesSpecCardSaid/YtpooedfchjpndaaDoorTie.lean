/-
  DERIVED. GIVEN WITH THE SEED: THE PROGRAM's TIES (one call each: nine closed facts by the kernel) AND EACH ROW's TIE, after the 31st guide's Derived/Test/Toyas{Tie, Card}.lean. No idea stands in it: it is a product of the set-up. Laid BY PROGRAM, IN A SANDBOX (cutbox-door.mjs). By AI agents, Wed Nov 11 2026. No macro, syntax, notation, axiom, sorry.
-/
import Derived.Test.YtpooedfchjpndaaDoorRows
import Derived.LaidByTextLater
import Derived.SevenTiedAt
import Derived.LaidSub
import Derived.LaidOnce
namespace Go.Proofs.YtpooedfchjpndaaDoor
open Go
set_option maxRecDepth 100000
theorem seatTie1 : Tryd.prog.laidByTextLater [("scriptorium/oldstack.takes", Rows.laid_scriptorium_oldstack_takes), ("scriptorium/oldstack.leaves", Rows.laid_scriptorium_oldstack_leaves)] [.data, .data] true :=
  Program.laidByTextLater_by_one 19 8 25 (by kernel_rfl) (by kernel_rfl) (by kernel_rfl) (by kernel_rfl) (by kernel_rfl) (by kernel_rfl) (fun _ _ => by kernel_rfl)
theorem noOwnUnsafe : Tryd.pinned.checked.prog.headLifts.contains "ownunsafe" = false := by kernel_rfl
theorem tie : Tryd.prog.laidByTextLater [("scriptorium/oldstack.takes", Rows.laid_scriptorium_oldstack_takes), ("scriptorium/oldstack.leaves", Rows.laid_scriptorium_oldstack_leaves)] [.data, .data] true :=
  Program.laidByTextLater.sub seatTie1 ["scriptorium/oldstack.takes", "scriptorium/oldstack.leaves"] (by kernel_rfl) (by kernel_rfl)
theorem oldstackRunMatchesSpec_row_tie : Rows.oldstackRunMatchesSpecRow.laidByTextAt .later Tryd.pinned [.data, .data] true :=
  OpenClaim.laidByTextAt_later rfl rfl tie noOwnUnsafe
theorem oldstackRunsAddUp_row_tie : Rows.oldstackRunsAddUpRow.laidByTextAt .later Tryd.pinned [.data, .data] true :=
  OpenClaim.laidByTextAt_later rfl rfl tie noOwnUnsafe
theorem oldstackStopsChangeNothing_row_tie : Rows.oldstackStopsChangeNothingRow.laidByTextAt .later Tryd.pinned [.data, .data] true :=
  OpenClaim.laidByTextAt_later rfl rfl tie noOwnUnsafe
theorem oldstackStreamsGoOn_row_tie : Rows.oldstackStreamsGoOnRow.laidByTextAt .later Tryd.pinned [.data, .data] true :=
  OpenClaim.laidByTextAt_later rfl rfl tie noOwnUnsafe
theorem oldstackRunMatchesSpecUpto_row_tie : Rows.oldstackRunMatchesSpecUptoRow.laidByTextAt .later Tryd.pinned [.data, .data] true :=
  OpenClaim.laidByTextAt_later rfl rfl tie noOwnUnsafe
theorem oldstackRunsAddUpUpto_row_tie : Rows.oldstackRunsAddUpUptoRow.laidByTextAt .later Tryd.pinned [.data, .data] true :=
  OpenClaim.laidByTextAt_later rfl rfl tie noOwnUnsafe
theorem oldstackStopsChangeNothingUpto_row_tie : Rows.oldstackStopsChangeNothingUptoRow.laidByTextAt .later Tryd.pinned [.data, .data] true :=
  OpenClaim.laidByTextAt_later rfl rfl tie noOwnUnsafe
theorem oldstackStreamsGoOnUpto_row_tie : Rows.oldstackStreamsGoOnUptoRow.laidByTextAt .later Tryd.pinned [.data, .data] true :=
  OpenClaim.laidByTextAt_later rfl rfl tie noOwnUnsafe
end Go.Proofs.YtpooedfchjpndaaDoor
