/- The tape machine: rules that are written are read again as they were, and a text that is read is the text of its rules, for all rules and texts; the package variables hold what the program's text lays. -/
import Derived.Test.YtbaahbpianingaaDoorMg35
namespace Go.Proofs.YtbaahbpianingaaDoor
open Go Go.ChangeShapes Go.WideShapes Go.ChangeAt Go.RowKit
set_option maxRecDepth 100000
theorem agt_params : ∀ t ∈ Tryd.f9.params.toList, Tryd.prog.readableRec t = true ∧ t < Tryd.prog.types.size := by
  rw [Tryd.params9]
  intro t ht
  obtain rfl | rfl : t = 52 ∨ t = 9 := by simpa using ht
  · exact ⟨by kernel_rfl, of_decide_eq_true (by kernel_rfl)⟩
  · exact ⟨by kernel_rfl, of_decide_eq_true (by kernel_rfl)⟩
theorem agt_contract (H : Type) (enc : TypeId × Value → H) (W : World) (base : Nat) (args : Array Value) (ds gs : List (DataW H)) (before : List MemPlace)
    (hval : ∀ (j : Nat) t v, Tryd.f9.params[j]? = some t → args[j]? = some v → Value.okWide Tryd.prog W .any base t v)
    (hW : DataW.Whole enc Tryd.prog Tryd.f9.params.toList Rows.oldtapeRulesAreReadAgainSpec.vars false W args.toList ds gs before) (hL : laidMetH Tryd.prog laidLT W) (hSh : W.ShapedOpen Tryd.prog) :
    Calls Tryd.prog 9 args W fun e W' => ∃ v, e = .returned v ∧ Rows.oldtapeRulesAreReadAgainSpec.post enc Tryd.prog Tryd.f9 false true false false W args v W' := by
  have hW' := hW
  obtain ⟨p, q, hA0, hV, rfl, hfz, hnd⟩ := hW
  have hA : DataW.TrodAll enc Tryd.prog W 0 (fun _ => true) true Tryd.f9.params.toList args.toList ds p := hA0
  rw [Tryd.params9] at hA hval
  obtain ⟨v0, v1, d0, d1, p0, p1, rfl, rfl, rfl, h0, h1⟩ := trodAll_two hA
  obtain ⟨A, L, c, rfl, hl, hs, hwf⟩ := arg_rules (hval 0 52 v0 rfl rfl) h0
  obtain ⟨B, rfl, _, _, hB⟩ := Go.ChangeMaps.open_string Tryd.underlying9 (hval 1 9 v1 rfl rfl) h1
  refine (againT_c A L c B W hl hs hwf hB (tabT_of hL hSh)).mono fun e W' ⟨he, hx⟩ => ?_
  subst he
  exact ⟨_, rfl, law_post laidOut agt_params rfl Tryd.underlying4 rfl rfl hW' hx⟩
def agtArgs : Array Value := #[.slice none 0 0, .string ⟨#[]⟩]
theorem agt_laid (os : Os) : laidMet Tryd.prog Rows.oldtapeRulesAreReadAgainRow.laid ((laidWorldT os).forCall (fun _ _ => 0) ⟨#[], agtArgs, []⟩).memory :=
  laidMet_of_run' 8 (by kernel_rfl) (by kernel_rfl)
theorem agt_reads (os : Os) {H : Type} (enc : TypeId × Value → H) : ∃ places, DataW.whole enc Tryd.prog ((laidWorldT os).forCall (fun _ _ => 0) ⟨#[], agtArgs, []⟩).memory Tryd.f9.params.toList Rows.oldtapeRulesAreReadAgainSpec.vars false agtArgs.toList 8 = some ([.nil, .lit (.string [])], [], places) :=
  ⟨[], by kernel_rfl⟩
theorem agt_lifted (os : Os) (started : os.Started) (H : Type) (enc : TypeId × Value → H) (F : Stop.Interp) :
    ReturnsInHanded {} Tryd.checked os 9 .any ((OpenSpec.ofChange Rows.oldtapeRulesAreReadAgainSpec).preRow enc Tryd.prog Tryd.f9 Rows.oldtapeRulesAreReadAgainRow.domain false Rows.oldtapeRulesAreReadAgainRow.laid) (((OpenSpec.ofChange Rows.oldtapeRulesAreReadAgainSpec).at F).post enc Tryd.prog Tryd.f9 false true false false) := by
  obtain ⟨places, hx⟩ := agt_reads os enc
  refine returnsInHanded_of_row (C := Tryd.checked) (s := OpenSpec.ofChange Rows.oldtapeRulesAreReadAgainSpec) own started (by kernel_rfl) Tryd.func9
    (witness_row_at (enc := enc) (C := Tryd.checked) false (laidWorldT os) agtArgs rfl (by kernel_rfl) (by kernel_rfl) (by kernel_rfl)
      (OpenSpec.preRow_of_cond 8 hx (by kernel_rfl) (fun k hk => by cases hk) (by kernel_rfl) (agt_laid os))) ?_
  intro W base args ds gs before hval hW _ _ _ hL hSh _
  exact agt_contract H enc W base args ds gs before hval hW hL hSh
theorem agt_said : Rows.OldtapeRulesAreReadAgainSaid :=
  OpenClaim.holds_of_cond 9 Tryd.f9 rfl rfl rfl rfl rfl rfl rfl ⟨rfl, rfl, rfl, rfl, rfl⟩ rfl rfl rfl rfl rfl (by kernel_rfl) Tryd.func9 (by kernel_rfl)
    (of_decide_eq_true (by kernel_rfl)) (by unfold Func.isWrapper; first | (rw [if_pos (by decide +kernel)]; kernel_rfl) | (rw [if_neg (by decide +kernel)]; exact ⟨rfl, rfl⟩))
    (fun os started H enc _ F => by rw [OpenClaim.pre_eq_preRow]; exact agt_lifted os started H enc F)
theorem agt_plain (f : FuncId) (fn : Func) (hf : Tryd.pinned.checked.prog.funcNamed "scriptorium/scriptoriumlaw8.OldtapeRulesAreReadAgain" = some f) (hfn : Tryd.pinned.checked.prog.funcs[f]? = some fn) :
    true = Tryd.pinned.checked.prog.looks [] ∧ ∀ (j : Nat) t, fn.params[j]? = some t → Tryd.pinned.checked.prog.wantsStandIn t = false := by
  obtain rfl : f = 9 := Option.some.inj ((show Tryd.prog.funcNamed "scriptorium/scriptoriumlaw8.OldtapeRulesAreReadAgain" = some 9 by kernel_rfl).symm.trans hf) |>.symm
  obtain rfl : fn = Tryd.f9 := (Option.some.inj (Tryd.func9.symm.trans hfn)).symm
  refine ⟨by kernel_rfl, fun j t ht => ?_⟩
  rw [Tryd.params9] at ht
  obtain rfl | rfl : t = 52 ∨ t = 9 := by simpa using Array.mem_of_getElem? ht
  · exact (show Tryd.prog.wantsStandIn 52 = false by kernel_rfl)
  · exact (show Tryd.prog.wantsStandIn 9 = false by kernel_rfl)
theorem agt_card : Rows.OldtapeRulesAreReadAgainCardSaid :=
  Claim7.holds_tied_plain_at .later [] _ _ _ _ agt_said (fun _ h => by cases h) (by kernel_rfl) (fun _ h => by cases h) oldtapeRulesAreReadAgain_row_tie rfl ⟨rfl, rfl⟩ (by kernel_rfl) rfl agt_plain (by kernel_rfl)
end Go.Proofs.YtbaahbpianingaaDoor
