/- The tape machine: Step and Run return what the specification requires, for all states and numbers of steps; the package variables hold what the program's text lays. -/
import Derived.Test.YtbaahbpianingaaDoorMg35
import Derived.Test.YtbaahbpianingaaDoorTqN
namespace Go.Proofs.YtbaahbpianingaaDoor
open Go Go.ChangeShapes Go.WideShapes Go.ChangeAt Go.RowKit
set_option maxRecDepth 100000
theorem rnt_params : ∀ t ∈ Tryd.f8.params.toList, Tryd.prog.readableRec t = true ∧ t < Tryd.prog.types.size := by
  rw [Tryd.params8]
  intro t ht
  obtain rfl | rfl : t = 54 ∨ t = 3 := by simpa using ht
  · exact ⟨by kernel_rfl, of_decide_eq_true (by kernel_rfl)⟩
  · exact ⟨by kernel_rfl, of_decide_eq_true (by kernel_rfl)⟩
theorem rnt_contract (H : Type) (enc : TypeId × Value → H) (W : World) (base : Nat) (args : Array Value) (ds gs : List (DataW H)) (before : List MemPlace)
    (hval : ∀ (j : Nat) t v, Tryd.f8.params[j]? = some t → args[j]? = some v → Value.okWide Tryd.prog W .any base t v)
    (hW : DataW.Whole enc Tryd.prog Tryd.f8.params.toList Rows.oldtapeRunMatchesSpecSpec.vars false W args.toList ds gs before) (hL : laidMetH Tryd.prog laidLT W) (hSh : W.ShapedOpen Tryd.prog) :
    Calls Tryd.prog 8 args W fun e W' => ∃ v, e = .returned v ∧ Rows.oldtapeRunMatchesSpecSpec.post enc Tryd.prog Tryd.f8 false true false false W args v W' := by
  have hW' := hW
  obtain ⟨p, q, hA0, hV, rfl, hfz, hnd⟩ := hW
  have hA : DataW.TrodAll enc Tryd.prog W 0 (fun _ => true) true Tryd.f8.params.toList args.toList ds p := hA0
  rw [Tryd.params8] at hA hval
  obtain ⟨v0, v1, d0, d1, p0, p1, rfl, rfl, rfl, h0, h1⟩ := trodAll_two hA
  obtain ⟨cs, s, rfl, hs⟩ := open_tape (hval 0 54 v0 rfl rfl) h0
  obtain ⟨n, rfl, _, _⟩ := open_int Tryd.underlying3 (hval 1 3 v1 rfl rfl) h1
  refine (runMatchT_c cs s n W hs (tabT_of hL hSh)).mono fun e W' ⟨he, hx⟩ => ?_
  subst he
  exact ⟨_, rfl, law_post laidOut rnt_params rfl Tryd.underlying4 rfl rfl hW' hx⟩
def rntArgs : Array Value := #[zeroLitT, .int .i64 0]
theorem rnt_laid (os : Os) : laidMet Tryd.prog Rows.oldtapeRunMatchesSpecRow.laid ((laidWorldT os).forCall (fun _ _ => 0) ⟨#[], rntArgs, []⟩).memory :=
  laidMet_of_run' 8 (by kernel_rfl) (by kernel_rfl)
theorem rnt_reads (os : Os) {H : Type} (enc : TypeId × Value → H) : ∃ places, DataW.whole enc Tryd.prog ((laidWorldT os).forCall (fun _ _ => 0) ⟨#[], rntArgs, []⟩).memory Tryd.f8.params.toList Rows.oldtapeRunMatchesSpecSpec.vars false rntArgs.toList 8 = some ([zeroDataT, .lit (.int .i64 0)], [], places) :=
  ⟨[], by kernel_rfl⟩
theorem rnt_lifted (os : Os) (started : os.Started) (H : Type) (enc : TypeId × Value → H) (F : Stop.Interp) :
    ReturnsInHanded {} Tryd.checked os 8 .any ((OpenSpec.ofChange Rows.oldtapeRunMatchesSpecSpec).preRow enc Tryd.prog Tryd.f8 Rows.oldtapeRunMatchesSpecRow.domain false Rows.oldtapeRunMatchesSpecRow.laid) (((OpenSpec.ofChange Rows.oldtapeRunMatchesSpecSpec).at F).post enc Tryd.prog Tryd.f8 false true false false) := by
  obtain ⟨places, hx⟩ := rnt_reads os enc
  refine returnsInHanded_of_row (C := Tryd.checked) (s := OpenSpec.ofChange Rows.oldtapeRunMatchesSpecSpec) own started (by kernel_rfl) Tryd.func8
    (witness_row_at (enc := enc) (C := Tryd.checked) false (laidWorldT os) rntArgs rfl (by kernel_rfl) (by kernel_rfl) (by kernel_rfl)
      (OpenSpec.preRow_of_cond 8 hx (by kernel_rfl) (fun k hk => by cases hk) (by kernel_rfl) (rnt_laid os))) ?_
  intro W base args ds gs before hval hW _ _ _ hL hSh _
  exact rnt_contract H enc W base args ds gs before hval hW hL hSh
theorem rnt_said : Rows.OldtapeRunMatchesSpecSaid :=
  OpenClaim.holds_of_cond 8 Tryd.f8 rfl rfl rfl rfl rfl rfl rfl ⟨rfl, rfl, rfl, rfl, rfl⟩ rfl rfl rfl rfl rfl (by kernel_rfl) Tryd.func8 (by kernel_rfl)
    (of_decide_eq_true (by kernel_rfl)) (by unfold Func.isWrapper; first | (rw [if_pos (by decide +kernel)]; kernel_rfl) | (rw [if_neg (by decide +kernel)]; exact ⟨rfl, rfl⟩))
    (fun os started H enc _ F => by rw [OpenClaim.pre_eq_preRow]; exact rnt_lifted os started H enc F)
theorem rnt_plain (f : FuncId) (fn : Func) (hf : Tryd.pinned.checked.prog.funcNamed "scriptorium/scriptoriumlaw8.OldtapeRunMatchesSpec" = some f) (hfn : Tryd.pinned.checked.prog.funcs[f]? = some fn) :
    true = Tryd.pinned.checked.prog.looks [] ∧ ∀ (j : Nat) t, fn.params[j]? = some t → Tryd.pinned.checked.prog.wantsStandIn t = false := by
  obtain rfl : f = 8 := Option.some.inj ((show Tryd.prog.funcNamed "scriptorium/scriptoriumlaw8.OldtapeRunMatchesSpec" = some 8 by kernel_rfl).symm.trans hf) |>.symm
  obtain rfl : fn = Tryd.f8 := (Option.some.inj (Tryd.func8.symm.trans hfn)).symm
  refine ⟨by kernel_rfl, fun j t ht => ?_⟩
  rw [Tryd.params8] at ht
  obtain rfl | rfl : t = 54 ∨ t = 3 := by simpa using Array.mem_of_getElem? ht
  · exact (show Tryd.prog.wantsStandIn 54 = false by kernel_rfl)
  · exact (show Tryd.prog.wantsStandIn 3 = false by kernel_rfl)
theorem rnt_card : Rows.OldtapeRunMatchesSpecCardSaid :=
  Claim7.holds_tied_plain_at .later [] _ _ _ _ rnt_said (fun _ h => by cases h) (by kernel_rfl) (fun _ h => by cases h) oldtapeRunMatchesSpec_row_tie rfl ⟨rfl, rfl⟩ (by kernel_rfl) rfl rnt_plain (by kernel_rfl)
end Go.Proofs.YtbaahbpianingaaDoor
