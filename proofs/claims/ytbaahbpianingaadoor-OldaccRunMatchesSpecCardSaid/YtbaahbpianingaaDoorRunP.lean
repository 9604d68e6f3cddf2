/- The accumulator machine: Valid, Start, Step and Run return what the specification requires, for all states, words, inputs and numbers of steps; the tables hold what the program's text lays. -/
import Derived.Test.YtbaahbpianingaaDoorWitQ
import Derived.Test.YtbaahbpianingaaDoorMatQ
namespace Go.Proofs.YtbaahbpianingaaDoor
open Go Go.ChangeShapes Go.WideShapes Go.ChangeAt Go.RowKit
set_option maxRecDepth 100000
theorem run_params : ∀ t ∈ Tryd.f3.params.toList, Tryd.prog.readableRec t = true ∧ t < Tryd.prog.types.size := by
  rw [Tryd.params3]
  intro t ht
  obtain rfl | rfl | rfl | rfl : t = 25 ∨ t = 26 ∨ t = 23 ∨ t = 3 := by simpa using ht
  · exact ⟨by kernel_rfl, of_decide_eq_true (by kernel_rfl)⟩
  · exact ⟨by kernel_rfl, of_decide_eq_true (by kernel_rfl)⟩
  · exact ⟨by kernel_rfl, of_decide_eq_true (by kernel_rfl)⟩
  · exact ⟨by kernel_rfl, of_decide_eq_true (by kernel_rfl)⟩
theorem run_byt {l : List Int} (h : ∀ n ∈ l, (Lit.int .u8 n).wf = true) : Byt l := fun x hx => by
  have := h x hx
  simp [Lit.wf, IntKind.min, IntKind.max, IntKind.signed, IntKind.bits] at this
  omega
theorem run_ints {H : Type} {enc : TypeId × Value → H} {W : World} {base : Nat} {sp : Nat → Bool} {hd : Bool} {r : Reach} {b0 : Nat} {v : Value} {d : DataW H} {p : List MemPlace} (hv : Value.okWide Tryd.prog W r b0 26 v) (h : DataW.Trod enc Tryd.prog W base sp hd 26 v d p) :
    ∃ (A : Option Addr) (c : Nat) (l : List Int), v = .slice A l.length c ∧ l.length ≤ c ∧ c ≤ maxLen ∧ (A = none → c = 0) ∧ Sl W .i64 A l := by
  obtain ⟨a, len, cap, rfl⟩ := okWide_slice Tryd.underlying26 hv
  obtain ⟨fuel, hf⟩ := h
  obtain ⟨l, ⟨A, c, e, h1, h2, h3, h4⟩, hw⟩ := slAt_trod (v := .slice a len cap) Tryd.underlying26 Tryd.underlying3 cells3 hf
  injection e with e
  exact ⟨A, c, l, e, h1, h2, h3, h4⟩
theorem run_bytes {H : Type} {enc : TypeId × Value → H} {W : World} {base : Nat} {sp : Nat → Bool} {hd : Bool} {r : Reach} {b0 : Nat} {v : Value} {d : DataW H} {p : List MemPlace} (hv : Value.okWide Tryd.prog W r b0 23 v) (h : DataW.Trod enc Tryd.prog W base sp hd 23 v d p) :
    ∃ (A : Option Addr) (c : Nat) (l : List Int), v = .slice A l.length c ∧ l.length ≤ c ∧ c ≤ maxLen ∧ (A = none → c = 0) ∧ Sl W .u8 A l ∧ Byt l := by
  obtain ⟨a, len, cap, rfl⟩ := okWide_slice Tryd.underlying23 hv
  obtain ⟨fuel, hf⟩ := h
  obtain ⟨l, ⟨A, c, e, h1, h2, h3, h4⟩, hw⟩ := slAt_trod (v := .slice a len cap) Tryd.underlying23 Tryd.underlying5 cells5 hf
  injection e with e
  exact ⟨A, c, l, e, h1, h2, h3, h4, run_byt hw⟩
theorem run_contract (H : Type) (enc : TypeId × Value → H) (W : World) (base : Nat) (args : Array Value) (ds gs : List (DataW H)) (before : List MemPlace)
    (hval : ∀ (j : Nat) t v, Tryd.f3.params[j]? = some t → args[j]? = some v → Value.okWide Tryd.prog W .any base t v)
    (hW : DataW.Whole enc Tryd.prog Tryd.f3.params.toList Rows.oldaccRunMatchesSpecSpec.vars false W args.toList ds gs before) (hL : laidMetH Tryd.prog laidL W) :
    Calls Tryd.prog 3 args W fun e W' => ∃ v, e = .returned v ∧ Rows.oldaccRunMatchesSpecSpec.post enc Tryd.prog Tryd.f3 false true false false W args v W' := by
  have hW' := hW
  obtain ⟨p, q, hA0, hV, rfl, hfz, hnd⟩ := hW
  have hA : DataW.TrodAll enc Tryd.prog W 0 (fun _ => true) true Tryd.f3.params.toList args.toList ds p := hA0
  rw [Tryd.params3] at hA hval
  obtain ⟨v0, v1, v2, v3, d0, d1, d2, d3, p0, p1, p2, p3, rfl, rfl, rfl, h0, h1, h2, h3⟩ := trodAll_four hA
  obtain ⟨cs, s, rfl, hs⟩ := open_state (hval 0 25 v0 rfl rfl) h0
  obtain ⟨A, c, l, rfl, a1, a2, a3, a4⟩ := run_ints (hval 1 26 v1 rfl rfl) h1
  obtain ⟨B, d, m, rfl, b1, b2, b3, b4, b5⟩ := run_bytes (hval 2 23 v2 rfl rfl) h2
  obtain ⟨n, rfl, _, _⟩ := open_int Tryd.underlying3 (hval 3 3 v3 rfl rfl) h3
  refine (match_c cs s A B l m c d n W hs (tabs_of hL) (Nat.le_trans a1 a2) (Nat.le_trans b1 b2) b1 b2 b5 a4 b4 a3 b3).mono fun e W' ⟨he, hx⟩ => ?_
  subst he
  exact ⟨_, rfl, law_post laidOut run_params rfl Tryd.underlying4 rfl rfl hW' hx⟩
def runArgs : Array Value := #[zeroLitSt, .slice none 0 0, .slice none 0 0, .int .i64 0]
theorem run_laid (os : Os) : laidMet Tryd.prog Rows.oldaccRunMatchesSpecRow.laid ((laidWorld os).forCall (fun _ _ => 0) ⟨#[], runArgs, []⟩).memory :=
  laidMet_of_run' 8 (by kernel_rfl) (by kernel_rfl)
theorem run_reads (os : Os) {H : Type} (enc : TypeId × Value → H) : ∃ places, DataW.whole enc Tryd.prog ((laidWorld os).forCall (fun _ _ => 0) ⟨#[], runArgs, []⟩).memory Tryd.f3.params.toList Rows.oldaccRunMatchesSpecSpec.vars false runArgs.toList 8 = some ([zeroData, .nil, .nil, .lit (.int .i64 0)], [], places) :=
  ⟨[], by kernel_rfl⟩
theorem run_lifted (os : Os) (started : os.Started) (H : Type) (enc : TypeId × Value → H) (F : Stop.Interp) :
    ReturnsInHanded {} Tryd.checked os 3 .any ((OpenSpec.ofChange Rows.oldaccRunMatchesSpecSpec).preRow enc Tryd.prog Tryd.f3 Rows.oldaccRunMatchesSpecRow.domain false Rows.oldaccRunMatchesSpecRow.laid) (((OpenSpec.ofChange Rows.oldaccRunMatchesSpecSpec).at F).post enc Tryd.prog Tryd.f3 false true false false) := by
  obtain ⟨places, hx⟩ := run_reads os enc
  refine returnsInHanded_of_row (C := Tryd.checked) (s := OpenSpec.ofChange Rows.oldaccRunMatchesSpecSpec) own started (by kernel_rfl) Tryd.func3
    (witness_row_at (enc := enc) (C := Tryd.checked) false (laidWorld os) runArgs rfl (by kernel_rfl) (by kernel_rfl) (by kernel_rfl)
      (OpenSpec.preRow_of_cond 8 hx (by kernel_rfl) (fun k hk => by cases hk) (by kernel_rfl) (run_laid os))) ?_
  intro W base args ds gs before hval hW _ _ _ hL _ _
  exact run_contract H enc W base args ds gs before hval hW hL
theorem run_said : Rows.OldaccRunMatchesSpecSaid :=
  OpenClaim.holds_of_cond 3 Tryd.f3 rfl rfl rfl rfl rfl rfl rfl ⟨rfl, rfl, rfl, rfl, rfl⟩ rfl rfl rfl rfl rfl (by kernel_rfl) Tryd.func3 (by kernel_rfl)
    (of_decide_eq_true (by kernel_rfl)) (by unfold Func.isWrapper; first | (rw [if_pos (by decide +kernel)]; kernel_rfl) | (rw [if_neg (by decide +kernel)]; exact ⟨rfl, rfl⟩))
    (fun os started H enc _ F => by rw [OpenClaim.pre_eq_preRow]; exact run_lifted os started H enc F)
theorem run_plain (f : FuncId) (fn : Func) (hf : Tryd.pinned.checked.prog.funcNamed "scriptorium/scriptoriumlaw8.OldaccRunMatchesSpec" = some f) (hfn : Tryd.pinned.checked.prog.funcs[f]? = some fn) :
    true = Tryd.pinned.checked.prog.looks [] ∧ ∀ (j : Nat) t, fn.params[j]? = some t → Tryd.pinned.checked.prog.wantsStandIn t = false := by
  obtain rfl : f = 3 := Option.some.inj ((show Tryd.prog.funcNamed "scriptorium/scriptoriumlaw8.OldaccRunMatchesSpec" = some 3 by kernel_rfl).symm.trans hf) |>.symm
  obtain rfl : fn = Tryd.f3 := (Option.some.inj (Tryd.func3.symm.trans hfn)).symm
  refine ⟨by kernel_rfl, fun j t ht => ?_⟩
  rw [Tryd.params3] at ht
  obtain rfl | rfl | rfl | rfl : t = 25 ∨ t = 26 ∨ t = 23 ∨ t = 3 := by simpa using Array.mem_of_getElem? ht
  · exact (show Tryd.prog.wantsStandIn 25 = false by kernel_rfl)
  · exact (show Tryd.prog.wantsStandIn 26 = false by kernel_rfl)
  · exact (show Tryd.prog.wantsStandIn 23 = false by kernel_rfl)
  · exact (show Tryd.prog.wantsStandIn 3 = false by kernel_rfl)
theorem run_card : Rows.OldaccRunMatchesSpecCardSaid :=
  Claim7.holds_tied_plain_at .later [] _ _ _ _ run_said (fun _ h => by cases h) (by kernel_rfl) (fun _ h => by cases h) oldaccRunMatchesSpec_row_tie rfl ⟨rfl, rfl⟩ (by kernel_rfl) rfl run_plain (by kernel_rfl)
end Go.Proofs.YtbaahbpianingaaDoor
