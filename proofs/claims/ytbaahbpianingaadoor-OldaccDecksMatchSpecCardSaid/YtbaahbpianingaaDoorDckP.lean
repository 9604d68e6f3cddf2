/- The accumulator machine: WriteDeck and ReadDeck return what the specification requires, for all words and texts; the tables hold what the program's text lays. -/
import Derived.Test.YtbaahbpianingaaDoorWit
import Derived.Test.YtbaahbpianingaaDoorSpecD
namespace Go.Proofs.YtbaahbpianingaaDoor
open Go Go.ChangeShapes Go.WideShapes Go.ChangeAt Go.RowKit
set_option maxRecDepth 100000
theorem dck_params : ∀ t ∈ Tryd.f6.params.toList, Tryd.prog.readableRec t = true ∧ t < Tryd.prog.types.size := by
  rw [Tryd.params6]
  intro t ht
  obtain rfl | rfl : t = 26 ∨ t = 9 := by simpa using ht
  · exact ⟨by kernel_rfl, of_decide_eq_true (by kernel_rfl)⟩
  · exact ⟨by kernel_rfl, of_decide_eq_true (by kernel_rfl)⟩
theorem dck_contract (H : Type) (enc : TypeId × Value → H) (W : World) (base : Nat) (args : Array Value) (ds gs : List (DataW H)) (before : List MemPlace)
    (hval : ∀ (j : Nat) t v, Tryd.f6.params[j]? = some t → args[j]? = some v → Value.okWide Tryd.prog W .any base t v)
    (hW : DataW.Whole enc Tryd.prog Tryd.f6.params.toList Rows.oldaccDecksMatchSpecSpec.vars false W args.toList ds gs before) (hL : laidMetH Tryd.prog laidL W) :
    Calls Tryd.prog 6 args W fun e W' => ∃ v, e = .returned v ∧ Rows.oldaccDecksMatchSpecSpec.post enc Tryd.prog Tryd.f6 false true false false W args v W' := by
  have hW' := hW
  obtain ⟨p, q, hA0, hV, rfl, hfz, hnd⟩ := hW
  have hA : DataW.TrodAll enc Tryd.prog W 0 (fun _ => true) true Tryd.f6.params.toList args.toList ds p := hA0
  rw [Tryd.params6] at hA hval
  obtain ⟨v0, v1, d0, d1, p0, p1, rfl, rfl, rfl, h0, h1⟩ := trodAll_two hA
  obtain ⟨A, l, c, rfl, hl, hs⟩ := arg_ints (hval 0 26 v0 rfl rfl) h0
  obtain ⟨B, rfl, _, _, hB⟩ := Go.ChangeMaps.open_string Tryd.underlying9 (hval 1 9 v1 rfl rfl) h1
  refine (decks_c A l c B W hl hs hB (tabs_of hL)).mono fun e W' ⟨he, hx⟩ => ?_
  subst he
  exact ⟨_, rfl, law_post laidOut dck_params rfl Tryd.underlying4 rfl rfl hW' hx⟩
def dckArgs : Array Value := #[.slice none 0 0, .string ⟨#[]⟩]
theorem dck_laid (os : Os) : laidMet Tryd.prog Rows.oldaccDecksMatchSpecRow.laid ((laidWorld os).forCall (fun _ _ => 0) ⟨#[], dckArgs, []⟩).memory :=
  laidMet_of_run' 8 (by kernel_rfl) (by kernel_rfl)
theorem dck_reads (os : Os) {H : Type} (enc : TypeId × Value → H) : ∃ places, DataW.whole enc Tryd.prog ((laidWorld os).forCall (fun _ _ => 0) ⟨#[], dckArgs, []⟩).memory Tryd.f6.params.toList Rows.oldaccDecksMatchSpecSpec.vars false dckArgs.toList 8 = some ([.nil, .lit (.string [])], [], places) :=
  ⟨[], by kernel_rfl⟩
theorem dck_lifted (os : Os) (started : os.Started) (H : Type) (enc : TypeId × Value → H) (F : Stop.Interp) :
    ReturnsInHanded {} Tryd.checked os 6 .any ((OpenSpec.ofChange Rows.oldaccDecksMatchSpecSpec).preRow enc Tryd.prog Tryd.f6 Rows.oldaccDecksMatchSpecRow.domain false Rows.oldaccDecksMatchSpecRow.laid) (((OpenSpec.ofChange Rows.oldaccDecksMatchSpecSpec).at F).post enc Tryd.prog Tryd.f6 false true false false) := by
  obtain ⟨places, hx⟩ := dck_reads os enc
  refine returnsInHanded_of_row (C := Tryd.checked) (s := OpenSpec.ofChange Rows.oldaccDecksMatchSpecSpec) own started (by kernel_rfl) Tryd.func6
    (witness_row_at (enc := enc) (C := Tryd.checked) false (laidWorld os) dckArgs rfl (by kernel_rfl) (by kernel_rfl) (by kernel_rfl)
      (OpenSpec.preRow_of_cond 8 hx (by kernel_rfl) (fun k hk => by cases hk) (by kernel_rfl) (dck_laid os))) ?_
  intro W base args ds gs before hval hW _ _ _ hL _ _
  exact dck_contract H enc W base args ds gs before hval hW hL
theorem dck_said : Rows.OldaccDecksMatchSpecSaid :=
  OpenClaim.holds_of_cond 6 Tryd.f6 rfl rfl rfl rfl rfl rfl rfl ⟨rfl, rfl, rfl, rfl, rfl⟩ rfl rfl rfl rfl rfl (by kernel_rfl) Tryd.func6 (by kernel_rfl)
    (of_decide_eq_true (by kernel_rfl)) (by unfold Func.isWrapper; first | (rw [if_pos (by decide +kernel)]; kernel_rfl) | (rw [if_neg (by decide +kernel)]; exact ⟨rfl, rfl⟩))
    (fun os started H enc _ F => by rw [OpenClaim.pre_eq_preRow]; exact dck_lifted os started H enc F)
theorem dck_plain (f : FuncId) (fn : Func) (hf : Tryd.pinned.checked.prog.funcNamed "scriptorium/scriptoriumlaw8.OldaccDecksMatchSpec" = some f) (hfn : Tryd.pinned.checked.prog.funcs[f]? = some fn) :
    true = Tryd.pinned.checked.prog.looks [] ∧ ∀ (j : Nat) t, fn.params[j]? = some t → Tryd.pinned.checked.prog.wantsStandIn t = false := by
  obtain rfl : f = 6 := Option.some.inj ((show Tryd.prog.funcNamed "scriptorium/scriptoriumlaw8.OldaccDecksMatchSpec" = some 6 by kernel_rfl).symm.trans hf) |>.symm
  obtain rfl : fn = Tryd.f6 := (Option.some.inj (Tryd.func6.symm.trans hfn)).symm
  refine ⟨by kernel_rfl, fun j t ht => ?_⟩
  rw [Tryd.params6] at ht
  obtain rfl | rfl : t = 26 ∨ t = 9 := by simpa using Array.mem_of_getElem? ht
  · exact (show Tryd.prog.wantsStandIn 26 = false by kernel_rfl)
  · exact (show Tryd.prog.wantsStandIn 9 = false by kernel_rfl)
theorem dck_card : Rows.OldaccDecksMatchSpecCardSaid :=
  Claim7.holds_tied_plain_at .later [] _ _ _ _ dck_said (fun _ h => by cases h) (by kernel_rfl) (fun _ h => by cases h) oldaccDecksMatchSpec_row_tie rfl ⟨rfl, rfl⟩ (by kernel_rfl) rfl dck_plain (by kernel_rfl)
end Go.Proofs.YtbaahbpianingaaDoor
