import Derived.Test.YtbaahbpianingaaGreatDoorMg25
import Derived.Test.YtbaahbpianingaaGreatDoorMg18
namespace Go.Proofs.YtbaahbpianingaaGreatDoor
open Go Go.Proofs Go.RowKit
open Tape (Rule Ts splitP countF lessI bigS)
set_option maxHeartbeats 6400000
set_option maxRecDepth 100000
theorem nums_atG {S : ByteArray} {i : Nat} (h : i < S.size) : (numsT S)[i]? = some ((S[i]'h).toNat : Int) := by
  unfold numsT
  rw [List.getElem?_map, List.getElem?_eq_getElem (by rw [Array.length_toList]; exact h)]
  rfl
theorem less_bytes : ∀ a b : List UInt8, Op.bytesLess a b = lessI (nums8 a) (nums8 b)
  | [], [] => rfl
  | _ :: _, [] => rfl
  | [], _ :: _ => rfl
  | a :: x, b :: y => by
    show (decide (a < b) || ((a == b) && Op.bytesLess x y)) = (decide ((a.toNat : Int) < (b.toNat : Int)) || (decide ((a.toNat : Int) = (b.toNat : Int)) && lessI (nums8 x) (nums8 y)))
    rw [less_bytes x y]
    have h1 : decide (a < b) = decide ((a.toNat : Int) < (b.toNat : Int)) := by
      rw [decide_eq_decide, UInt8.lt_iff_toNat_lt]
      omega
    have h2 : (a == b) = decide ((a.toNat : Int) = (b.toNat : Int)) := by
      rw [Bool.eq_iff_iff, beq_iff_eq, decide_eq_true_eq]
      exact ⟨fun q => by rw [q], fun q => nat8_inj a b q⟩
    rw [h1, h2]
def bigT : ByteArray := ⟨#[57, 50, 50, 51, 51, 55, 50, 48, 51, 54, 56, 53, 52, 55, 55, 53, 56, 48, 55]⟩
theorem nums_inj {A B : ByteArray} (h : numsT A = numsT B) : A = B := by rw [← str_numsT A, h, str_numsT]
theorem gtr_big (S : ByteArray) : (!(Op.bytesLess S.toList bigT.toList || S.toList == bigT.toList)) = !(lessI (numsT S) bigS || decide (numsT S = bigS)) := by
  have h1 : Op.bytesLess S.toList bigT.toList = lessI (numsT S) bigS := by
    rw [ByteArray.toList_eq, ByteArray.toList_eq, less_bytes]
    rfl
  have h2 : (S.toList == bigT.toList) = decide (numsT S = bigS) := by
    rw [Bool.eq_iff_iff, beq_iff_eq, decide_eq_true_eq, ByteArray.toList_eq, ByteArray.toList_eq]
    constructor
    · intro q
      unfold numsT
      rw [q]
      rfl
    · intro q
      have : S = bigT := nums_inj (by rw [q]; rfl)
      rw [this]
  rw [h1, h2]
theorem wpList_gtrg {ops : Array Oper} {rest : List Oper} {o : Oper} {a : Act} {w : World} {Q : Exit → Act → World → Prop} (hw : Region.wanted o (yielded ops a.tmps) = true) (x y : Operand) (ho : o.op = .binOp .gtr 9 x y 9) (S : ByteArray) (hx : a.eval x = .string S) (hy : a.eval y = .string bigT)
    (b : Bool) (hb : (!(Op.bytesLess S.toList bigT.toList || S.toList == bigT.toList)) = b) (h : wpList Tryz.prog ops Q rest (a.put o.dst (.bool b)) w) : wpList Tryz.prog ops Q (o :: rest) a w := by
  refine wpList_step fun K hK => ?_
  rw [if_pos hw]
  have hr : (execOp a.eval o).run Tryz.prog w = .ok (.value (.bool b)) w := by
    rw [← hb]
    simp only [execOp, ho, hx, hy]
    rfl
  unfold Oper.wp
  rw [hr]
  exact hK _ _ h
def cntV : Option Nat → Value
  | none => .tuple #[.int .i64 0, .bool false]
  | some n => .tuple #[.int .i64 n, .bool true]
def CntRet (w : World) (l : List Int) (e : Ending) (w' : World) : Prop := e = .returned (cntV (countF l)) ∧ w = w'
theorem cnt_none {w : World} {l : List Int} (h : countF l = none) : CntRet w l (.returned (.tuple #[.int .i64 0, .bool false])) w := ⟨by rw [h]; rfl, rfl⟩
theorem cnt_some {w : World} {l : List Int} {n : Nat} (h : countF l = some n) : CntRet w l (.returned (.tuple #[.int .i64 n, .bool true])) w := ⟨by rw [h]; rfl, rfl⟩
theorem cf_head {l : List Int} (h : l = [] ∨ 19 < l.length ∨ (1 < l.length ∧ l[0]? = some 48)) : countF l = none := by unfold countF; rw [if_pos h]
theorem cf_dig {l : List Int} {i : Nat} {x : Int} (hx : l[i]? = some x) (h : ¬ (48 ≤ x ∧ x ≤ 57)) : countF l = none := by
  unfold countF
  split
  · rfl
  · rw [if_pos]
    have : ¬ l.all Acc.digB = true := fun q => by
      rw [List.all_eq_true] at q
      exact h (Acc.dig_iff.1 (q x (List.mem_of_getElem? hx)))
    simpa using this
theorem cf_main {l : List Int} (h : ¬ (l = [] ∨ 19 < l.length ∨ (1 < l.length ∧ l[0]? = some 48))) (hd : l.all Acc.digB = true) :
    countF l = if l.length = 19 ∧ (lessI l bigS || decide (l = bigS)) = false then none else if 3 < l.length then some 99 else some (Acc.numF l) := by
  unfold countF
  rw [if_neg h, if_neg (by rw [hd]; decide)]
theorem dig_go {l : List Int} {k : Nat} {x : Int} (h : (l.take k).all Acc.digB = true) (hx : l[k]? = some x) (hd : 48 ≤ x ∧ x ≤ 57) : (l.take (k + 1)).all Acc.digB = true := by
  rw [List.take_add_one, hx, List.all_append, h]
  simp only [Option.toList_some, List.all_cons, List.all_nil, Bool.and_true, Bool.true_and]
  exact Acc.dig_iff.2 hd
theorem numF_go {l : List Int} {k : Nat} {x : Int} (hx : l[k]? = some x) : Acc.numF (l.take (k + 1)) = 10 * Acc.numF (l.take k) + (x - 48).toNat := by
  rw [List.take_add_one, hx]
  exact Acc.numF_snoc _ _
theorem numF_low {l : List Int} (k : Nat) (h : l.all Acc.digB = true) (hl : l.length ≤ 3) : Acc.numF (l.take k) < 1000 := by
  have h1 : (l.take k).all Acc.digB = true := by
    rw [List.all_eq_true] at h ⊢
    exact fun x hx => h x (List.mem_of_mem_take hx)
  have h2 := Acc.num_lt _ h1
  have h3 : (l.take k).length ≤ 3 := by rw [List.length_take]; omega
  have h4 : 10 ^ (l.take k).length ≤ 10 ^ 3 := Nat.pow_le_pow_right (by decide) h3
  omega
theorem count_empty (S : ByteArray) (w : World) (h : S.size = 0) : Calls Tryz.prog 43 #[.string S] w (CntRet w (numsT S)) := by
  have HF := Lib.hid (cf_head (l := numsT S) (.inl (List.eq_nil_of_length_eq_zero (by rw [numsT_len]; exact h))))
  have e1 : ((S.size : Int) == 0) = true := by rw [h]; rfl
  clear h
  go_enter Tryz.func43, Tryz.ntmps43
  go_wp2
  go_ret2
  exact cnt_none HF.out
theorem count_long (S : ByteArray) (w : World) (h : 19 < S.size) (hl : S.size ≤ 5000) : Calls Tryz.prog 43 #[.string S] w (CntRet w (numsT S)) := by
  have HF := Lib.hid (cf_head (l := numsT S) (.inr (.inl (by rw [numsT_len]; exact h))))
  have e1 : ((S.size : Int) == 0) = false := beq_eq_false_iff_ne.2 (by omega)
  have e2 : decide ((S.size : Int) > 19) = true := by simp; omega
  go_enter Tryz.func43, Tryz.ntmps43
  go_wp2
  go_ret2
  exact cnt_none HF.out
theorem count_zero (S : ByteArray) (w : World) (h : 1 < S.size) (hl : S.size ≤ 19) (h0 : ((S[0]'(by omega)).toNat : Int) = 48) : Calls Tryz.prog 43 #[.string S] w (CntRet w (numsT S)) := by
  have HF := Lib.hid (cf_head (l := numsT S) (.inr (.inr ⟨by rw [numsT_len]; exact h, by rw [nums_atG (by omega), h0]⟩)))
  have e1 : ((S.size : Int) == 0) = false := beq_eq_false_iff_ne.2 (by omega)
  have e2 : decide ((S.size : Int) > 19) = false := by simp; omega
  have e3 : decide ((S.size : Int) > 1) = true := by simp; omega
  go_enter Tryz.func43, Tryz.ntmps43
  go_wp2
  go_ret2
  exact cnt_none HF.out
theorem count_main (S : ByteArray) (w : World) (h : 1 ≤ S.size) (hl : S.size ≤ 19) (h0 : S.size = 1 ∨ ((S[0]'(by omega)).toNat : Int) ≠ 48) : Calls Tryz.prog 43 #[.string S] w (CntRet w (numsT S)) := by
  have HH : Hid (¬ (numsT S = [] ∨ 19 < (numsT S).length ∨ (1 < (numsT S).length ∧ (numsT S)[0]? = some 48))) := Lib.hid (by
    rw [numsT_len]
    rintro (q | q | ⟨q, q2⟩)
    · have := numsT_len S
      rw [q] at this
      simp at this
      omega
    · omega
    · rw [nums_atG (show 0 < S.size by omega)] at q2
      rcases h0 with e | e
      · omega
      · exact e (by injection q2))
  have e1 : ((S.size : Int) == 0) = false := beq_eq_false_iff_ne.2 (by omega)
  have e2 : decide ((S.size : Int) > 19) = false := by simp; omega
  go_enter Tryz.func43, Tryz.ntmps43
  go_upto_region 1 with (fail)
  go_cut [24] (fun s24 wx => s24 = .bool false ∧ w = wx)
  case first =>
    by_cases h1 : 1 < S.size
    · have e3 : decide ((S.size : Int) > 1) = true := by simp; omega
      have h00 : ((S[0]'(by omega)).toNat : Int) ≠ 48 := by
        rcases h0 with e | e
        · omega
        · exact e
      have e4 : (((S[0]'(by omega)).toNat : Int) == 48) = false := by simpa using h00
      clear h0
      go_wp2
      go_meet
      exact ⟨by first | rfl | simp [e4], rfl⟩
    · have e3 : decide ((S.size : Int) > 1) = false := by simp; omega
      clear h0
      go_wp2
      go_meet
      exact ⟨rfl, rfl⟩
  obtain ⟨rfl, rfl⟩ := hcut
  clear h0 e1 e2
  go_wp2
  go_loop [4] (fun t4 => ∃ i : Nat, i ≤ S.size ∧ t4 = .int .i64 (i : Int) ∧ Hid (((numsT S).take i).all Acc.digB = true)) (fun t4 => S.size - (intOf t4).toNat)
  case atStart => exact ⟨0, Nat.zero_le _, rfl, Lib.hid (by simp)⟩
  case round =>
  obtain ⟨i, hi, rfl, hd⟩ := hrel
  have HD := Lib.hid hd.out
  clear hd
  by_cases hlt : i < S.size
  · have hwx : IntKind.i64.wrap ((S[i]'hlt).toNat : Int) = ((S[i]'hlt).toNat : Int) := IntWalk.i64_in _ (by have := (S[i]'hlt).toNat_lt; omega)
    by_cases hx : 48 ≤ ((S[i]'hlt).toNat : Int) ∧ ((S[i]'hlt).toNat : Int) ≤ 57
    · have HN := Lib.hid (dig_go HD.out (nums_atG hlt) hx)
      have e4 : inB ((S[i]'hlt).toNat : Int) 48 57 = true := decide_eq_true hx
      clear hx
      go_wp2_with (go_at_call 33; refine (In_c _ _ _ _).mono ?_; rintro e w' ⟨rfl, rfl⟩)
      go_round
      case rel => exact ⟨i + 1, hlt, by go_num, HN⟩
      case measure => simp [intOf]; omega
    · have HF := Lib.hid (cf_dig (nums_atG hlt) hx)
      have e4 : inB ((S[i]'hlt).toNat : Int) 48 57 = false := decide_eq_false hx
      clear hx
      go_wp2_with (go_at_call 33; refine (In_c _ _ _ _).mono ?_; rintro e w' ⟨rfl, rfl⟩)
      go_ret2
      exact cnt_none HF.out
  · have hie : i = S.size := by omega
    have HDA : Hid ((numsT S).all Acc.digB = true) := Lib.hid (by
      have := HD.out
      rwa [List.take_of_length_le (by rw [numsT_len]; omega)] at this)
    have HM := Lib.hid (cf_main HH.out HDA.out)
    have HG := Lib.hid (gtr_big S)
    obtain ⟨bg, hbg⟩ : ∃ bg, bg = !(lessI (numsT S) bigS || decide (numsT S = bigS)) := ⟨_, rfl⟩
    have HB : Hid ((lessI (numsT S) bigS || decide (numsT S = bigS)) = !bg) := Lib.hid (by rw [hbg, Bool.not_not])
    rw [← hbg] at HG
    clear hbg HD hi
    subst hie
    go_upto_region 8 with (fail)
    go_cut [43] (fun s43 wx => ∃ bb : Bool, s43 = .bool bb ∧ Hid (bb = (decide (S.size = 19) && bg)) ∧ w = wx)
    case first =>
      by_cases h19 : S.size = 19
      · have e5 : ((S.size : Int) == 19) = true := by rw [h19]; rfl
        have HE : Hid (bg = (decide (S.size = 19) && bg)) := Lib.hid (by rw [decide_eq_true h19, Bool.true_and])
        clear h19
        go_wp2_with (refine wpList_gtrg (by rfl) _ _ rfl S rfl rfl bg HG.out ?_)
        go_meet
        exact ⟨_, rfl, HE, rfl⟩
      · have e5 : ((S.size : Int) == 19) = false := by simp; omega
        have HE : Hid (false = (decide (S.size = 19) && bg)) := Lib.hid (by rw [decide_eq_false h19, Bool.false_and])
        clear h19
        go_wp2
        go_meet
        exact ⟨_, rfl, HE, rfl⟩
    obtain ⟨bb, rfl, hbb, rfl⟩ := hcut
    cases bb with
    | true =>
      have HF : Hid (countF (numsT S) = none) := Lib.hid (by
        have h1 := hbb.out
        have h2 : S.size = 19 ∧ bg = true := by simpa using h1.symm
        rw [HM.out, if_pos]
        rw [HB.out, h2.2, numsT_len]
        exact ⟨h2.1, rfl⟩)
      clear hbb
      go_wp2
      go_ret2
      exact cnt_none HF.out
    | false =>
      have HF : Hid (countF (numsT S) = if 3 < S.size then some 99 else some (Acc.numF (numsT S))) := Lib.hid (by
        have h1 := hbb.out
        rw [HM.out, if_neg, numsT_len]
        rw [numsT_len, HB.out]
        rintro ⟨q1, q2⟩
        have : bg = true := by simpa using q2
        rw [decide_eq_true q1, this] at h1
        cases h1)
      clear hbb HG HB HM
      by_cases h3 : 3 < S.size
      · have e5 : decide ((S.size : Int) > 3) = true := by simp; omega
        have HF2 : Hid (countF (numsT S) = some 99) := Lib.hid (by rw [HF.out, if_pos h3])
        clear h3
        go_wp2
        go_ret2
        exact cnt_some HF2.out
      · have e5 : decide ((S.size : Int) > 3) = false := by simp; omega
        have HF2 : Hid (countF (numsT S) = some (Acc.numF (numsT S))) := Lib.hid (by rw [HF.out, if_neg h3])
        have HLOW := Lib.hid (fun k => numF_low (l := numsT S) k HDA.out (by rw [numsT_len]; omega))
        go_wp2
        go_loop [5, 6] (fun t5 t6 => ∃ k n : Nat, k ≤ S.size ∧ t6 = .int .i64 (k : Int) ∧ t5 = .int .i64 (n : Int) ∧ n < 1000 ∧ Hid (Acc.numF ((numsT S).take k) = n)) (fun _ t6 => S.size - (intOf t6).toNat)
        case atStart => exact ⟨0, 0, Nat.zero_le _, rfl, rfl, by decide, Lib.hid (by simp [Acc.numF])⟩
        case round =>
        obtain ⟨k, n, hk, rfl, rfl, hn, hnum⟩ := hrel
        have HNM := Lib.hid hnum.out
        clear hnum
        by_cases hlt : k < S.size
        · have hwx : IntKind.i64.wrap ((S[k]'hlt).toNat : Int) = ((S[k]'hlt).toNat : Int) := IntWalk.i64_in _ (by have := (S[k]'hlt).toNat_lt; omega)
          have hx := nums_atG hlt
          have hdx : 48 ≤ ((S[k]'hlt).toNat : Int) ∧ ((S[k]'hlt).toNat : Int) ≤ 57 := by
            have := HDA.out
            rw [List.all_eq_true] at this
            exact Acc.dig_iff.1 (this _ (List.mem_of_getElem? hx))
          obtain ⟨x, hxe⟩ : ∃ x : Nat, ((S[k]'hlt).toNat : Int) = 48 + (x : Int) := ⟨(S[k]'hlt).toNat - 48, by omega⟩
          have HNX : Hid (Acc.numF ((numsT S).take (k + 1)) = 10 * n + x) := Lib.hid (by rw [numF_go hx, HNM.out, hxe]; omega)
          have hlow : 10 * n + x < 1000 := by have := HLOW.out (k + 1); rw [HNX.out] at this; exact this
          have hx9 : x ≤ 9 := by omega
          clear hx hdx
          go_wp2
          go_round
          case rel =>
            refine ⟨k + 1, 10 * n + x, hlt, by go_num, ?_, hlow, HNX⟩
            first | (rw [show (10 * (n : Int) + ((S[k]'hlt).toNat : Int) - 48) = ((10 * n + x : Nat) : Int) by omega]) | (congr 1; omega)
          case measure => simp [intOf]; omega
        · have hke : k = S.size := by omega
          have HF3 : Hid (countF (numsT S) = some n) := Lib.hid (by
            have := HNM.out
            rw [List.take_of_length_le (by rw [numsT_len]; omega)] at this
            rw [HF2.out, this])
          clear hke
          go_wp2
          go_ret2
          exact cnt_some HF3.out
theorem count_c (S : ByteArray) (w : World) (hl : S.size ≤ 5000) : Calls Tryz.prog 43 #[.string S] w (CntRet w (numsT S)) := by
  by_cases h1 : S.size = 0
  · exact count_empty S w h1
  by_cases h2 : 19 < S.size
  · exact count_long S w h2 hl
  by_cases h3 : 1 < S.size ∧ ((S[0]'(by omega)).toNat : Int) = 48
  · exact count_zero S w h3.1 (by omega) h3.2
  · exact count_main S w (by omega) (by omega) (by
      rcases Nat.lt_or_ge 1 S.size with q | q
      · exact .inr (fun e => h3 ⟨q, e⟩)
      · exact .inl (by omega))
theorem scan_clip : ∀ (L : List Rule) (k : Nat) (p : Option Rule), scanR k p (L.map Tape.clipR) = scanR k p L
  | [], _, _ => rfl
  | r :: L, k, p => by
    rw [List.map_cons, scanR, scanR, Tape.ruleB_clip]
    by_cases h : Tape.ruleB r = false
    · rw [if_pos h, if_pos h]
    · have h2 : Tape.ruleB r = true := by simpa using h
      rw [if_neg h, if_neg h, Tape.clip_id h2, scan_clip L (k + 1) (some r)]
theorem faultR_clip (L : List Rule) : faultR (L.map Tape.clipR) = faultR L := by
  unfold faultR
  rw [List.length_map, scan_clip]
theorem map_clip {L : List Rule} (h : ∀ r ∈ L, Tape.ruleB r = true) : L.map Tape.clipR = L := by
  conv => rhs; rw [← List.map_id L]
  exact List.map_congr_left fun r hr => Tape.clip_id (h r hr)
/-- What RulesOf says of the rules that were read. -/
theorem readS_ok {t : List Int} {L : List Rule} (hl : ¬ 4000 < t.length) (h : Tape.rdL 0 (splitP 10 t) = .ok L) : readT t = if faultR (L.map Tape.clipR) = (0, 0) then (L.map Tape.clipR, (0, 0)) else ([], faultR (L.map Tape.clipR)) := by
  unfold readT
  rw [if_neg hl, h, faultR_clip]
  show (if faultR L = (0, 0) then (L, ((0 : Int), (0 : Int))) else ([], faultR L)) = _
  split
  · rename_i q
    rw [map_clip]
    intro r hr
    exact (rules_ok q).2 r hr
  · rfl
end Go.Proofs.YtbaahbpianingaaGreatDoor
