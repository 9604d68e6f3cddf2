/- The stack machine: in the course of a run the image is unchanged, the input is read from the front, and the output is only extended, for every state and number of steps; the tables hold what the program's text lays. -/
import Derived.Test.YtpooedfchjpndaaDoorWit
import Derived.Test.YtpooedfchjpndaaDoorStream
namespace Go.Proofs.YtpooedfchjpndaaDoor
open Go Go.ChangeShapes Go.WideShapes Go.ChangeAt Go.RowKit
set_option maxRecDepth 100000
theorem str_params : ∀ t ∈ Tryd.f6.params.toList, Tryd.prog.readableRec t = true ∧ t < Tryd.prog.types.size := by
  rw [Tryd.params6]
  intro t ht
  obtain rfl | rfl : t = 28 ∨ t = 3 := by simpa using ht
  · exact ⟨by kernel_rfl, of_decide_eq_true (by kernel_rfl)⟩
  · exact ⟨by kernel_rfl, of_decide_eq_true (by kernel_rfl)⟩
theorem str_contract (H : Type) (enc : TypeId × Value → H) (W : World) (base : Nat) (args : Array Value) (ds gs : List (DataW H)) (before : List MemPlace)
    (hval : ∀ (j : Nat) t v, Tryd.f6.params[j]? = some t → args[j]? = some v → Value.okWide Tryd.prog W .any base t v)
    (hW : DataW.Whole enc Tryd.prog Tryd.f6.params.toList Rows.oldstackStreamsGoOnSpec.vars false W args.toList ds gs before) (hL : laidMetH Tryd.prog laidL W) :
    Calls Tryd.prog 6 args W fun e W' => ∃ v, e = .returned v ∧ Rows.oldstackStreamsGoOnSpec.post enc Tryd.prog Tryd.f6 false true false false W args v W' := by
  have hW' := hW
  obtain ⟨p, q, hA0, hV, rfl, hfz, hnd⟩ := hW
  have hA : DataW.TrodAll enc Tryd.prog W 0 (fun _ => true) true Tryd.f6.params.toList args.toList ds p := hA0
  rw [Tryd.params6] at hA hval
  obtain ⟨v0, v1, d0, d1, p0, p1, rfl, rfl, rfl, h0, h1⟩ := trodAll_two hA
  obtain ⟨cs, s, rfl, hs⟩ := open_state (hval 0 28 v0 rfl rfl) h0
  obtain ⟨n, rfl, _, _⟩ := open_int Tryd.underlying3 (hval 1 3 v1 rfl rfl) h1
  refine (streams_c cs s n W hs (tabs_of hL)).mono fun e W' ⟨he, hx⟩ => ?_
  subst he
  exact ⟨_, rfl, law_post laidOut str_params rfl Tryd.underlying4 rfl rfl hW' hx⟩
def strArgs : Array Value := #[zeroLitSt, .int .i64 0]
theorem str_laid (os : Os) : laidMet Tryd.prog Rows.oldstackStreamsGoOnRow.laid ((laidWorld os).forCall (fun _ _ => 0) ⟨#[], strArgs, []⟩).memory :=
  laidMet_of_run' 8 (by kernel_rfl) (by kernel_rfl)
theorem str_reads (os : Os) {H : Type} (enc : TypeId × Value → H) : ∃ places, DataW.whole enc Tryd.prog ((laidWorld os).forCall (fun _ _ => 0) ⟨#[], strArgs, []⟩).memory Tryd.f6.params.toList Rows.oldstackStreamsGoOnSpec.vars false strArgs.toList 8 = some ([zeroData, .lit (.int .i64 0)], [], places) :=
  ⟨[], by kernel_rfl⟩
theorem str_lifted (os : Os) (started : os.Started) (H : Type) (enc : TypeId × Value → H) (F : Stop.Interp) :
    ReturnsInHanded {} Tryd.checked os 6 .any ((OpenSpec.ofChange Rows.oldstackStreamsGoOnSpec).preRow enc Tryd.prog Tryd.f6 Rows.oldstackStreamsGoOnRow.domain false Rows.oldstackStreamsGoOnRow.laid) (((OpenSpec.ofChange Rows.oldstackStreamsGoOnSpec).at F).post enc Tryd.prog Tryd.f6 false true false false) := by
  obtain ⟨places, hx⟩ := str_reads os enc
  refine returnsInHanded_of_row (C := Tryd.checked) (s := OpenSpec.ofChange Rows.oldstackStreamsGoOnSpec) own started (by kernel_rfl) Tryd.func6
    (witness_row_at (enc := enc) (C := Tryd.checked) false (laidWorld os) strArgs rfl (by kernel_rfl) (by kernel_rfl) (by kernel_rfl)
      (OpenSpec.preRow_of_cond 8 hx (by kernel_rfl) (fun k hk => by cases hk) (by kernel_rfl) (str_laid os))) ?_
  intro W base args ds gs before hval hW _ _ _ hL _ _
  exact str_contract H enc W base args ds gs before hval hW hL
theorem str_said : Rows.OldstackStreamsGoOnSaid :=
  OpenClaim.holds_of_cond 6 Tryd.f6 rfl rfl rfl rfl rfl rfl rfl ⟨rfl, rfl, rfl, rfl, rfl⟩ rfl rfl rfl rfl rfl (by kernel_rfl) Tryd.func6 (by kernel_rfl)
    (of_decide_eq_true (by kernel_rfl)) (by unfold Func.isWrapper; first | (rw [if_pos (by decide +kernel)]; kernel_rfl) | (rw [if_neg (by decide +kernel)]; exact ⟨rfl, rfl⟩))
    (fun os started H enc _ F => by rw [OpenClaim.pre_eq_preRow]; exact str_lifted os started H enc F)
theorem str_plain (f : FuncId) (fn : Func) (hf : Tryd.pinned.checked.prog.funcNamed "scriptorium/scriptoriumlaw8.OldstackStreamsGoOn" = some f) (hfn : Tryd.pinned.checked.prog.funcs[f]? = some fn) :
    false = Tryd.pinned.checked.prog.looks [] ∧ ∀ (j : Nat) t, fn.params[j]? = some t → Tryd.pinned.checked.prog.wantsStandIn t = false := by
  obtain rfl : f = 6 := Option.some.inj ((show Tryd.prog.funcNamed "scriptorium/scriptoriumlaw8.OldstackStreamsGoOn" = some 6 by kernel_rfl).symm.trans hf) |>.symm
  obtain rfl : fn = Tryd.f6 := (Option.some.inj (Tryd.func6.symm.trans hfn)).symm
  refine ⟨by kernel_rfl, fun j t ht => ?_⟩
  rw [Tryd.params6] at ht
  obtain rfl | rfl : t = 28 ∨ t = 3 := by simpa using Array.mem_of_getElem? ht
  · exact (show Tryd.prog.wantsStandIn 28 = false by kernel_rfl)
  · exact (show Tryd.prog.wantsStandIn 3 = false by kernel_rfl)
theorem str_card : Rows.OldstackStreamsGoOnCardSaid :=
  Claim7.holds_tied_plain_at .later [] _ _ _ _ str_said (fun _ h => by cases h) (by kernel_rfl) (fun _ h => by cases h) oldstackStreamsGoOn_row_tie rfl ⟨rfl, rfl⟩ (by kernel_rfl) rfl str_plain (by kernel_rfl)
end Go.Proofs.YtpooedfchjpndaaDoor
