/- The tape machine: as long as the tape is short enough, a blank cell more at its left end changes nothing but places, for all states and numbers of steps; the package variables hold what the program's text lays. -/
import Derived.Test.YtbaahbpianingaaDoorMg35
import Derived.Test.YtbaahbpianingaaDoorTqP
namespace Go.Proofs.YtbaahbpianingaaDoor
open Go Go.ChangeShapes Go.WideShapes Go.ChangeAt Go.RowKit
set_option maxRecDepth 100000
theorem blk_params : ∀ t ∈ Tryd.f11.params.toList, Tryd.prog.readableRec t = true ∧ t < Tryd.prog.types.size := by
  rw [Tryd.params11]
  intro t ht
  obtain rfl | rfl : t = 54 ∨ t = 3 := by simpa using ht
  · exact ⟨by kernel_rfl, of_decide_eq_true (by kernel_rfl)⟩
  · exact ⟨by kernel_rfl, of_decide_eq_true (by kernel_rfl)⟩
theorem blk_contract (H : Type) (enc : TypeId × Value → H) (W : World) (base : Nat) (args : Array Value) (ds gs : List (DataW H)) (before : List MemPlace)
    (hval : ∀ (j : Nat) t v, Tryd.f11.params[j]? = some t → args[j]? = some v → Value.okWide Tryd.prog W .any base t v)
    (hW : DataW.Whole enc Tryd.prog Tryd.f11.params.toList Rows.oldtapeBlanksDoNotMatterSpec.vars false W args.toList ds gs before) (hL : laidMetH Tryd.prog laidLT W) (hSh : W.ShapedOpen Tryd.prog) :
    Calls Tryd.prog 11 args W fun e W' => ∃ v, e = .returned v ∧ Rows.oldtapeBlanksDoNotMatterSpec.post enc Tryd.prog Tryd.f11 false true false false W args v W' := by
  have hW' := hW
  obtain ⟨p, q, hA0, hV, rfl, hfz, hnd⟩ := hW
  have hA : DataW.TrodAll enc Tryd.prog W 0 (fun _ => true) true Tryd.f11.params.toList args.toList ds p := hA0
  rw [Tryd.params11] at hA hval
  obtain ⟨v0, v1, d0, d1, p0, p1, rfl, rfl, rfl, h0, h1⟩ := trodAll_two hA
  obtain ⟨cs, s, rfl, hs⟩ := open_tape (hval 0 54 v0 rfl rfl) h0
  obtain ⟨n, rfl, _, _, hn⟩ := open_int Tryd.underlying3 (hval 1 3 v1 rfl rfl) h1
  refine (blanksT_c cs s n W hs (i64_wf hn) (tabT_of hL hSh)).mono fun e W' ⟨he, hx⟩ => ?_
  subst he
  exact ⟨_, rfl, law_post laidOut blk_params rfl Tryd.underlying4 rfl rfl hW' hx⟩
def blkArgs : Array Value := #[zeroLitT, .int .i64 0]
theorem blk_laid (os : Os) : laidMet Tryd.prog Rows.oldtapeBlanksDoNotMatterRow.laid ((laidWorldT os).forCall (fun _ _ => 0) ⟨#[], blkArgs, []⟩).memory :=
  laidMet_of_run' 8 (by kernel_rfl) (by kernel_rfl)
theorem blk_reads (os : Os) {H : Type} (enc : TypeId × Value → H) : ∃ places, DataW.whole enc Tryd.prog ((laidWorldT os).forCall (fun _ _ => 0) ⟨#[], blkArgs, []⟩).memory Tryd.f11.params.toList Rows.oldtapeBlanksDoNotMatterSpec.vars false blkArgs.toList 8 = some ([zeroDataT, .lit (.int .i64 0)], [], places) :=
  ⟨[], by kernel_rfl⟩
theorem blk_lifted (os : Os) (started : os.Started) (H : Type) (enc : TypeId × Value → H) (F : Stop.Interp) :
    ReturnsInHanded {} Tryd.checked os 11 .any ((OpenSpec.ofChange Rows.oldtapeBlanksDoNotMatterSpec).preRow enc Tryd.prog Tryd.f11 Rows.oldtapeBlanksDoNotMatterRow.domain false Rows.oldtapeBlanksDoNotMatterRow.laid) (((OpenSpec.ofChange Rows.oldtapeBlanksDoNotMatterSpec).at F).post enc Tryd.prog Tryd.f11 false true false false) := by
  obtain ⟨places, hx⟩ := blk_reads os enc
  refine returnsInHanded_of_row (C := Tryd.checked) (s := OpenSpec.ofChange Rows.oldtapeBlanksDoNotMatterSpec) own started (by kernel_rfl) Tryd.func11
    (witness_row_at (enc := enc) (C := Tryd.checked) false (laidWorldT os) blkArgs rfl (by kernel_rfl) (by kernel_rfl) (by kernel_rfl)
      (OpenSpec.preRow_of_cond 8 hx (by kernel_rfl) (fun k hk => by cases hk) (by kernel_rfl) (blk_laid os))) ?_
  intro W base args ds gs before hval hW _ _ _ hL hSh _
  exact blk_contract H enc W base args ds gs before hval hW hL hSh
theorem blk_said : Rows.OldtapeBlanksDoNotMatterSaid :=
  OpenClaim.holds_of_cond 11 Tryd.f11 rfl rfl rfl rfl rfl rfl rfl ⟨rfl, rfl, rfl, rfl, rfl⟩ rfl rfl rfl rfl rfl (by kernel_rfl) Tryd.func11 (by kernel_rfl)
    (of_decide_eq_true (by kernel_rfl)) (by unfold Func.isWrapper; first | (rw [if_pos (by decide +kernel)]; kernel_rfl) | (rw [if_neg (by decide +kernel)]; exact ⟨rfl, rfl⟩))
    (fun os started H enc _ F => by rw [OpenClaim.pre_eq_preRow]; exact blk_lifted os started H enc F)
theorem blk_plain (f : FuncId) (fn : Func) (hf : Tryd.pinned.checked.prog.funcNamed "scriptorium/scriptoriumlaw8.OldtapeBlanksDoNotMatter" = some f) (hfn : Tryd.pinned.checked.prog.funcs[f]? = some fn) :
    true = Tryd.pinned.checked.prog.looks [] ∧ ∀ (j : Nat) t, fn.params[j]? = some t → Tryd.pinned.checked.prog.wantsStandIn t = false := by
  obtain rfl : f = 11 := Option.some.inj ((show Tryd.prog.funcNamed "scriptorium/scriptoriumlaw8.OldtapeBlanksDoNotMatter" = some 11 by kernel_rfl).symm.trans hf) |>.symm
  obtain rfl : fn = Tryd.f11 := (Option.some.inj (Tryd.func11.symm.trans hfn)).symm
  refine ⟨by kernel_rfl, fun j t ht => ?_⟩
  rw [Tryd.params11] at ht
  obtain rfl | rfl : t = 54 ∨ t = 3 := by simpa using Array.mem_of_getElem? ht
  · exact (show Tryd.prog.wantsStandIn 54 = false by kernel_rfl)
  · exact (show Tryd.prog.wantsStandIn 3 = false by kernel_rfl)
theorem blk_card : Rows.OldtapeBlanksDoNotMatterCardSaid :=
  Claim7.holds_tied_plain_at .later [] _ _ _ _ blk_said (fun _ h => by cases h) (by kernel_rfl) (fun _ h => by cases h) oldtapeBlanksDoNotMatter_row_tie rfl ⟨rfl, rfl⟩ (by kernel_rfl) rfl blk_plain (by kernel_rfl)
end Go.Proofs.YtbaahbpianingaaDoor
