/- The tape machine: WriteRules and ReadRules return what the specification requires, for all rules and texts; the package variables hold what the program's text lays. -/
import Derived.Test.YtbaahbpianingaaGreatDoorMg19
import Derived.Test.YtbaahbpianingaaGreatDoorTzJ
namespace Go.Proofs.YtbaahbpianingaaGreatDoor
open Go Go.ChangeShapes Go.WideShapes Go.ChangeAt Go.RowKit
set_option maxRecDepth 100000
theorem rul_params : ∀ t ∈ Tryz.f4.params.toList, Tryz.prog.readableRec t = true ∧ t < Tryz.prog.types.size := by
  rw [Tryz.params4]
  intro t ht
  obtain rfl | rfl : t = 22 ∨ t = 9 := by simpa using ht
  · exact ⟨by kernel_rfl, of_decide_eq_true (by kernel_rfl)⟩
  · exact ⟨by kernel_rfl, of_decide_eq_true (by kernel_rfl)⟩
theorem rul_contract (H : Type) (enc : TypeId × Value → H) (W : World) (base : Nat) (args : Array Value) (ds gs : List (DataW H)) (before : List MemPlace)
    (hval : ∀ (j : Nat) t v, Tryz.f4.params[j]? = some t → args[j]? = some v → Value.okWide Tryz.prog W .any base t v)
    (hW : DataW.Whole enc Tryz.prog Tryz.f4.params.toList Rows.oldtapeRulesMatchSpecSpec.vars false W args.toList ds gs before) (hL : laidMetH Tryz.prog laidLT W) (hSh : W.ShapedOpen Tryz.prog) :
    Calls Tryz.prog 4 args W fun e W' => ∃ v, e = .returned v ∧ Rows.oldtapeRulesMatchSpecSpec.post enc Tryz.prog Tryz.f4 false true false false W args v W' := by
  have hW' := hW
  obtain ⟨p, q, hA0, hV, rfl, hfz, hnd⟩ := hW
  have hA : DataW.TrodAll enc Tryz.prog W 0 (fun _ => true) true Tryz.f4.params.toList args.toList ds p := hA0
  rw [Tryz.params4] at hA hval
  obtain ⟨v0, v1, d0, d1, p0, p1, rfl, rfl, rfl, h0, h1⟩ := trodAll_two hA
  obtain ⟨A, L, c, rfl, hl, hs, hwf⟩ := arg_rules (hval 0 22 v0 rfl rfl) h0
  obtain ⟨B, rfl, _, _, hB⟩ := Go.ChangeMaps.open_string Tryz.underlying9 (hval 1 9 v1 rfl rfl) h1
  refine (rulesMatch_c A L c B W hl hs hwf hB (tabT_of hL hSh)).mono fun e W' ⟨he, hx⟩ => ?_
  subst he
  exact ⟨_, rfl, law_post laidOut rul_params rfl Tryz.underlying4 rfl rfl hW' hx⟩
def rulArgs : Array Value := #[.slice none 0 0, .string ⟨#[]⟩]
theorem rul_laid (os : Os) : laidMet Tryz.prog Rows.oldtapeRulesMatchSpecRow.laid ((laidWorldT os).forCall (fun _ _ => 0) ⟨#[], rulArgs, []⟩).memory :=
  laidMet_of_run' 8 (by kernel_rfl) (by kernel_rfl)
theorem rul_reads (os : Os) {H : Type} (enc : TypeId × Value → H) : ∃ places, DataW.whole enc Tryz.prog ((laidWorldT os).forCall (fun _ _ => 0) ⟨#[], rulArgs, []⟩).memory Tryz.f4.params.toList Rows.oldtapeRulesMatchSpecSpec.vars false rulArgs.toList 8 = some ([.nil, .lit (.string [])], [], places) :=
  ⟨[], by kernel_rfl⟩
theorem rul_lifted (os : Os) (started : os.Started) (H : Type) (enc : TypeId × Value → H) (F : Stop.Interp) :
    ReturnsInHanded {} Tryz.checked os 4 .any ((OpenSpec.ofChange Rows.oldtapeRulesMatchSpecSpec).preRow enc Tryz.prog Tryz.f4 Rows.oldtapeRulesMatchSpecRow.domain false Rows.oldtapeRulesMatchSpecRow.laid) (((OpenSpec.ofChange Rows.oldtapeRulesMatchSpecSpec).at F).post enc Tryz.prog Tryz.f4 false true false false) := by
  obtain ⟨places, hx⟩ := rul_reads os enc
  refine returnsInHanded_of_row (C := Tryz.checked) (s := OpenSpec.ofChange Rows.oldtapeRulesMatchSpecSpec) own started (by kernel_rfl) Tryz.func4
    (witness_row_at (enc := enc) (C := Tryz.checked) false (laidWorldT os) rulArgs rfl (by kernel_rfl) (by kernel_rfl) (by kernel_rfl)
      (OpenSpec.preRow_of_cond 8 hx (by kernel_rfl) (fun k hk => by cases hk) (by kernel_rfl) (rul_laid os))) ?_
  intro W base args ds gs before hval hW _ _ _ hL hSh _
  exact rul_contract H enc W base args ds gs before hval hW hL hSh
theorem rul_said : Rows.OldtapeRulesMatchSpecSaid :=
  OpenClaim.holds_of_cond 4 Tryz.f4 rfl rfl rfl rfl rfl rfl rfl ⟨rfl, rfl, rfl, rfl, rfl⟩ rfl rfl rfl rfl rfl (by kernel_rfl) Tryz.func4 (by kernel_rfl)
    (of_decide_eq_true (by kernel_rfl)) (by unfold Func.isWrapper; first | (rw [if_pos (by decide +kernel)]; kernel_rfl) | (rw [if_neg (by decide +kernel)]; exact ⟨rfl, rfl⟩))
    (fun os started H enc _ F => by rw [OpenClaim.pre_eq_preRow]; exact rul_lifted os started H enc F)
theorem rul_plain (f : FuncId) (fn : Func) (hf : Tryz.pinned.checked.prog.funcNamed "scriptorium/scriptoriumlaw8.OldtapeRulesMatchSpec" = some f) (hfn : Tryz.pinned.checked.prog.funcs[f]? = some fn) :
    true = Tryz.pinned.checked.prog.looks [] ∧ ∀ (j : Nat) t, fn.params[j]? = some t → Tryz.pinned.checked.prog.wantsStandIn t = false := by
  obtain rfl : f = 4 := Option.some.inj ((show Tryz.prog.funcNamed "scriptorium/scriptoriumlaw8.OldtapeRulesMatchSpec" = some 4 by kernel_rfl).symm.trans hf) |>.symm
  obtain rfl : fn = Tryz.f4 := (Option.some.inj (Tryz.func4.symm.trans hfn)).symm
  refine ⟨by kernel_rfl, fun j t ht => ?_⟩
  rw [Tryz.params4] at ht
  obtain rfl | rfl : t = 22 ∨ t = 9 := by simpa using Array.mem_of_getElem? ht
  · exact (show Tryz.prog.wantsStandIn 22 = false by kernel_rfl)
  · exact (show Tryz.prog.wantsStandIn 9 = false by kernel_rfl)
theorem rul_card : Rows.OldtapeRulesMatchSpecCardSaid :=
  Claim7.holds_tied_plain_at .later [] _ _ _ _ rul_said (fun _ h => by cases h) (by kernel_rfl) (fun _ h => by cases h) oldtapeRulesMatchSpec_row_tie rfl ⟨rfl, rfl⟩ (by kernel_rfl) rfl rul_plain (by kernel_rfl)
end Go.Proofs.YtbaahbpianingaaGreatDoor
