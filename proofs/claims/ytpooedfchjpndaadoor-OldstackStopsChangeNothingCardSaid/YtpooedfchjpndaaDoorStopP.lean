/- The stack machine: a step in which the machine stops, but not by halt, changes nothing but Stop, for every state; the tables hold what the program's text lays. -/
import Derived.Test.YtpooedfchjpndaaDoorWit
import Derived.Test.YtpooedfchjpndaaDoorStop
namespace Go.Proofs.YtpooedfchjpndaaDoor
open Go Go.ChangeShapes Go.WideShapes Go.ChangeAt Go.RowKit
set_option maxRecDepth 100000
theorem stp_params : ∀ t ∈ Tryd.f5.params.toList, Tryd.prog.readableRec t = true ∧ t < Tryd.prog.types.size := by
  rw [Tryd.params5]
  intro t ht
  obtain rfl : t = 28 := by simpa using ht
  · exact ⟨by kernel_rfl, of_decide_eq_true (by kernel_rfl)⟩
theorem stp_contract (H : Type) (enc : TypeId × Value → H) (W : World) (base : Nat) (args : Array Value) (ds gs : List (DataW H)) (before : List MemPlace)
    (hval : ∀ (j : Nat) t v, Tryd.f5.params[j]? = some t → args[j]? = some v → Value.okWide Tryd.prog W .any base t v)
    (hW : DataW.Whole enc Tryd.prog Tryd.f5.params.toList Rows.oldstackStopsChangeNothingSpec.vars false W args.toList ds gs before) (hL : laidMetH Tryd.prog laidL W) :
    Calls Tryd.prog 5 args W fun e W' => ∃ v, e = .returned v ∧ Rows.oldstackStopsChangeNothingSpec.post enc Tryd.prog Tryd.f5 false true false false W args v W' := by
  have hW' := hW
  obtain ⟨p, q, hA0, hV, rfl, hfz, hnd⟩ := hW
  have hA : DataW.TrodAll enc Tryd.prog W 0 (fun _ => true) true Tryd.f5.params.toList args.toList ds p := hA0
  rw [Tryd.params5] at hA hval
  obtain ⟨v0, d0, rfl, rfl, h0⟩ := trodAll_one hA
  obtain ⟨cs, s, rfl, hs⟩ := open_state (hval 0 28 v0 rfl rfl) h0
  refine (stops_c cs s W hs (tabs_of hL)).mono fun e W' ⟨he, hx⟩ => ?_
  subst he
  exact ⟨_, rfl, law_post laidOut stp_params rfl Tryd.underlying4 rfl rfl hW' hx⟩
def stpArgs : Array Value := #[zeroLitSt]
theorem stp_laid (os : Os) : laidMet Tryd.prog Rows.oldstackStopsChangeNothingRow.laid ((laidWorld os).forCall (fun _ _ => 0) ⟨#[], stpArgs, []⟩).memory :=
  laidMet_of_run' 8 (by kernel_rfl) (by kernel_rfl)
theorem stp_reads (os : Os) {H : Type} (enc : TypeId × Value → H) : ∃ places, DataW.whole enc Tryd.prog ((laidWorld os).forCall (fun _ _ => 0) ⟨#[], stpArgs, []⟩).memory Tryd.f5.params.toList Rows.oldstackStopsChangeNothingSpec.vars false stpArgs.toList 8 = some ([zeroData], [], places) :=
  ⟨[], by kernel_rfl⟩
theorem stp_lifted (os : Os) (started : os.Started) (H : Type) (enc : TypeId × Value → H) (F : Stop.Interp) :
    ReturnsInHanded {} Tryd.checked os 5 .any ((OpenSpec.ofChange Rows.oldstackStopsChangeNothingSpec).preRow enc Tryd.prog Tryd.f5 Rows.oldstackStopsChangeNothingRow.domain false Rows.oldstackStopsChangeNothingRow.laid) (((OpenSpec.ofChange Rows.oldstackStopsChangeNothingSpec).at F).post enc Tryd.prog Tryd.f5 false true false false) := by
  obtain ⟨places, hx⟩ := stp_reads os enc
  refine returnsInHanded_of_row (C := Tryd.checked) (s := OpenSpec.ofChange Rows.oldstackStopsChangeNothingSpec) own started (by kernel_rfl) Tryd.func5
    (witness_row_at (enc := enc) (C := Tryd.checked) false (laidWorld os) stpArgs rfl (by kernel_rfl) (by kernel_rfl) (by kernel_rfl)
      (OpenSpec.preRow_of_cond 8 hx (by kernel_rfl) (fun k hk => by cases hk) (by kernel_rfl) (stp_laid os))) ?_
  intro W base args ds gs before hval hW _ _ _ hL _ _
  exact stp_contract H enc W base args ds gs before hval hW hL
theorem stp_said : Rows.OldstackStopsChangeNothingSaid :=
  OpenClaim.holds_of_cond 5 Tryd.f5 rfl rfl rfl rfl rfl rfl rfl ⟨rfl, rfl, rfl, rfl, rfl⟩ rfl rfl rfl rfl rfl (by kernel_rfl) Tryd.func5 (by kernel_rfl)
    (of_decide_eq_true (by kernel_rfl)) (by unfold Func.isWrapper; first | (rw [if_pos (by decide +kernel)]; kernel_rfl) | (rw [if_neg (by decide +kernel)]; exact ⟨rfl, rfl⟩))
    (fun os started H enc _ F => by rw [OpenClaim.pre_eq_preRow]; exact stp_lifted os started H enc F)
theorem stp_plain (f : FuncId) (fn : Func) (hf : Tryd.pinned.checked.prog.funcNamed "scriptorium/scriptoriumlaw8.OldstackStopsChangeNothing" = some f) (hfn : Tryd.pinned.checked.prog.funcs[f]? = some fn) :
    false = Tryd.pinned.checked.prog.looks [] ∧ ∀ (j : Nat) t, fn.params[j]? = some t → Tryd.pinned.checked.prog.wantsStandIn t = false := by
  obtain rfl : f = 5 := Option.some.inj ((show Tryd.prog.funcNamed "scriptorium/scriptoriumlaw8.OldstackStopsChangeNothing" = some 5 by kernel_rfl).symm.trans hf) |>.symm
  obtain rfl : fn = Tryd.f5 := (Option.some.inj (Tryd.func5.symm.trans hfn)).symm
  refine ⟨by kernel_rfl, fun j t ht => ?_⟩
  rw [Tryd.params5] at ht
  obtain rfl : t = 28 := by simpa using Array.mem_of_getElem? ht
  · exact (show Tryd.prog.wantsStandIn 28 = false by kernel_rfl)
theorem stp_card : Rows.OldstackStopsChangeNothingCardSaid :=
  Claim7.holds_tied_plain_at .later [] _ _ _ _ stp_said (fun _ h => by cases h) (by kernel_rfl) (fun _ h => by cases h) oldstackStopsChangeNothing_row_tie rfl ⟨rfl, rfl⟩ (by kernel_rfl) rfl stp_plain (by kernel_rfl)
end Go.Proofs.YtpooedfchjpndaaDoor
