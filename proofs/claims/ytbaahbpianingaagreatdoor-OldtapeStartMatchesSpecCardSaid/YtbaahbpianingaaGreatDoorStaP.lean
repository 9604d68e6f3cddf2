/- The tape machine: Start, Tape and Mirror return what the specification requires, for all rules, tapes and states; the package variables hold what the program's text lays. -/
import Derived.Test.YtbaahbpianingaaGreatDoorMg19
import Derived.Test.YtbaahbpianingaaGreatDoorTzD
namespace Go.Proofs.YtbaahbpianingaaGreatDoor
open Go Go.ChangeShapes Go.WideShapes Go.ChangeAt Go.RowKit
set_option maxRecDepth 100000
theorem sta_params : ∀ t ∈ Tryz.f3.params.toList, Tryz.prog.readableRec t = true ∧ t < Tryz.prog.types.size := by
  rw [Tryz.params3]
  intro t ht
  obtain rfl | rfl | rfl : t = 22 ∨ t = 23 ∨ t = 25 := by simpa using ht
  · exact ⟨by kernel_rfl, of_decide_eq_true (by kernel_rfl)⟩
  · exact ⟨by kernel_rfl, of_decide_eq_true (by kernel_rfl)⟩
  · exact ⟨by kernel_rfl, of_decide_eq_true (by kernel_rfl)⟩
theorem sta_rules {H : Type} {enc : TypeId × Value → H} {W : World} {base : Nat} {sp : Nat → Bool} {hd : Bool} {r : Reach} {b0 : Nat} {v : Value} {d : DataW H} {p : List MemPlace} (hv : Value.okWide Tryz.prog W r b0 22 v) (h : DataW.Trod enc Tryz.prog W base sp hd 22 v d p) :
    ∃ A L c, v = .slice A L.length c ∧ L.length ≤ c ∧ c ≤ maxLen ∧ (A = none → c = 0) ∧ Rls W A L ∧ ∀ q ∈ L, RuleWf q := by
  obtain ⟨a, len, cap, rfl⟩ := okWide_slice Tryz.underlying22 hv
  obtain ⟨fuel, hf⟩ := h
  have hf' : DataW.trod enc Tryz.prog W base sp hd fuel 22 [Value.slice a len cap] = some (d, p) := hf
  obtain ⟨A, L, c, e, h1, h2, h3, h4, h5⟩ := open_rules hf'
  injection e with e
  exact ⟨A, L, c, e, h1, h2, h3, h4, h5⟩
theorem sta_ints {H : Type} {enc : TypeId × Value → H} {W : World} {base : Nat} {sp : Nat → Bool} {hd : Bool} {r : Reach} {b0 : Nat} {v : Value} {d : DataW H} {p : List MemPlace} (hv : Value.okWide Tryz.prog W r b0 23 v) (h : DataW.Trod enc Tryz.prog W base sp hd 23 v d p) :
    ∃ (A : Option Addr) (c : Nat) (l : List Int), v = .slice A l.length c ∧ l.length ≤ c ∧ c ≤ maxLen ∧ (A = none → c = 0) ∧ Sl W .i64 A l ∧ ∀ x ∈ l, I64 x := by
  obtain ⟨a, len, cap, rfl⟩ := okWide_slice Tryz.underlying23 hv
  obtain ⟨fuel, hf⟩ := h
  obtain ⟨l, ⟨A, c, e, h1, h2, h3, h4⟩, hw⟩ := slAt_trod (v := .slice a len cap) Tryz.underlying23 Tryz.underlying3 cells3 hf
  injection e with e
  exact ⟨A, c, l, e, h1, h2, h3, h4, fun x hx => i64_wf (hw x hx)⟩
theorem sta_contract (H : Type) (enc : TypeId × Value → H) (W : World) (base : Nat) (args : Array Value) (ds gs : List (DataW H)) (before : List MemPlace)
    (hval : ∀ (j : Nat) t v, Tryz.f3.params[j]? = some t → args[j]? = some v → Value.okWide Tryz.prog W .any base t v)
    (hW : DataW.Whole enc Tryz.prog Tryz.f3.params.toList Rows.oldtapeStartMatchesSpecSpec.vars false W args.toList ds gs before) (hL : laidMetH Tryz.prog laidLT W) (hSh : W.ShapedOpen Tryz.prog) :
    Calls Tryz.prog 3 args W fun e W' => ∃ v, e = .returned v ∧ Rows.oldtapeStartMatchesSpecSpec.post enc Tryz.prog Tryz.f3 false true false false W args v W' := by
  have hW' := hW
  obtain ⟨p, q, hA0, hV, rfl, hfz, hnd⟩ := hW
  have hA : DataW.TrodAll enc Tryz.prog W 0 (fun _ => true) true Tryz.f3.params.toList args.toList ds p := hA0
  rw [Tryz.params3] at hA hval
  obtain ⟨v0, v1, v2, d0, d1, d2, p0, p1, p2, rfl, rfl, rfl, h0, h1, h2⟩ := trodAll_three hA
  obtain ⟨A, L, c, rfl, a1, a2, a3, a4, a5⟩ := sta_rules (hval 0 22 v0 rfl rfl) h0
  obtain ⟨B, d, l, rfl, b1, b2, b3, b4, b5⟩ := sta_ints (hval 1 23 v1 rfl rfl) h1
  obtain ⟨cs, s, rfl, hs⟩ := open_tape (hval 2 25 v2 rfl rfl) h2
  refine (startMatch_c A B L l c d cs s W a1 a2 a3 a4 a5 b1 b2 b3 b4 b5 hs (tabT_of hL hSh)).mono fun e W' ⟨he, hx⟩ => ?_
  subst he
  exact ⟨_, rfl, law_post laidOut sta_params rfl Tryz.underlying4 rfl rfl hW' hx⟩
def staArgs : Array Value := #[.slice none 0 0, .slice none 0 0, zeroLitT]
theorem sta_laid (os : Os) : laidMet Tryz.prog Rows.oldtapeStartMatchesSpecRow.laid ((laidWorldT os).forCall (fun _ _ => 0) ⟨#[], staArgs, []⟩).memory :=
  laidMet_of_run' 8 (by kernel_rfl) (by kernel_rfl)
theorem sta_reads (os : Os) {H : Type} (enc : TypeId × Value → H) : ∃ places, DataW.whole enc Tryz.prog ((laidWorldT os).forCall (fun _ _ => 0) ⟨#[], staArgs, []⟩).memory Tryz.f3.params.toList Rows.oldtapeStartMatchesSpecSpec.vars false staArgs.toList 8 = some ([.nil, .nil, zeroDataT], [], places) :=
  ⟨[], by kernel_rfl⟩
theorem sta_lifted (os : Os) (started : os.Started) (H : Type) (enc : TypeId × Value → H) (F : Stop.Interp) :
    ReturnsInHanded {} Tryz.checked os 3 .any ((OpenSpec.ofChange Rows.oldtapeStartMatchesSpecSpec).preRow enc Tryz.prog Tryz.f3 Rows.oldtapeStartMatchesSpecRow.domain false Rows.oldtapeStartMatchesSpecRow.laid) (((OpenSpec.ofChange Rows.oldtapeStartMatchesSpecSpec).at F).post enc Tryz.prog Tryz.f3 false true false false) := by
  obtain ⟨places, hx⟩ := sta_reads os enc
  refine returnsInHanded_of_row (C := Tryz.checked) (s := OpenSpec.ofChange Rows.oldtapeStartMatchesSpecSpec) own started (by kernel_rfl) Tryz.func3
    (witness_row_at (enc := enc) (C := Tryz.checked) false (laidWorldT os) staArgs rfl (by kernel_rfl) (by kernel_rfl) (by kernel_rfl)
      (OpenSpec.preRow_of_cond 8 hx (by kernel_rfl) (fun k hk => by cases hk) (by kernel_rfl) (sta_laid os))) ?_
  intro W base args ds gs before hval hW _ _ _ hL hSh _
  exact sta_contract H enc W base args ds gs before hval hW hL hSh
theorem sta_said : Rows.OldtapeStartMatchesSpecSaid :=
  OpenClaim.holds_of_cond 3 Tryz.f3 rfl rfl rfl rfl rfl rfl rfl ⟨rfl, rfl, rfl, rfl, rfl⟩ rfl rfl rfl rfl rfl (by kernel_rfl) Tryz.func3 (by kernel_rfl)
    (of_decide_eq_true (by kernel_rfl)) (by unfold Func.isWrapper; first | (rw [if_pos (by decide +kernel)]; kernel_rfl) | (rw [if_neg (by decide +kernel)]; exact ⟨rfl, rfl⟩))
    (fun os started H enc _ F => by rw [OpenClaim.pre_eq_preRow]; exact sta_lifted os started H enc F)
theorem sta_plain (f : FuncId) (fn : Func) (hf : Tryz.pinned.checked.prog.funcNamed "scriptorium/scriptoriumlaw8.OldtapeStartMatchesSpec" = some f) (hfn : Tryz.pinned.checked.prog.funcs[f]? = some fn) :
    true = Tryz.pinned.checked.prog.looks [] ∧ ∀ (j : Nat) t, fn.params[j]? = some t → Tryz.pinned.checked.prog.wantsStandIn t = false := by
  obtain rfl : f = 3 := Option.some.inj ((show Tryz.prog.funcNamed "scriptorium/scriptoriumlaw8.OldtapeStartMatchesSpec" = some 3 by kernel_rfl).symm.trans hf) |>.symm
  obtain rfl : fn = Tryz.f3 := (Option.some.inj (Tryz.func3.symm.trans hfn)).symm
  refine ⟨by kernel_rfl, fun j t ht => ?_⟩
  rw [Tryz.params3] at ht
  obtain rfl | rfl | rfl : t = 22 ∨ t = 23 ∨ t = 25 := by simpa using Array.mem_of_getElem? ht
  · exact (show Tryz.prog.wantsStandIn 22 = false by kernel_rfl)
  · exact (show Tryz.prog.wantsStandIn 23 = false by kernel_rfl)
  · exact (show Tryz.prog.wantsStandIn 25 = false by kernel_rfl)
theorem sta_card : Rows.OldtapeStartMatchesSpecCardSaid :=
  Claim7.holds_tied_plain_at .later [] _ _ _ _ sta_said (fun _ h => by cases h) (by kernel_rfl) (fun _ h => by cases h) oldtapeStartMatchesSpec_row_tie rfl ⟨rfl, rfl⟩ (by kernel_rfl) rfl sta_plain (by kernel_rfl)
end Go.Proofs.YtbaahbpianingaaGreatDoor
