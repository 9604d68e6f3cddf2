import Derived.Test.YtbaahbpianingaaGreatDoorMg17
import Derived.Test.YtbaahbpianingaaGreatDoorMg3
import Derived.Deep.QuietTactic
import Derived.BigQuiet
namespace Go.Proofs.YtbaahbpianingaaGreatDoor
open Go Go.Proofs Go.RowKit
open Tape (Rule Ts splitP)
set_option maxHeartbeats 6400000
set_option maxRecDepth 100000
def readT (t : List Int) : List Rule × (Int × Int) :=
  if 4000 < t.length then ([], (3, -1)) else match Tape.rdL 0 (splitP 10 t) with
    | .error i => ([], (1, (i : Int)))
    | .ok L => if faultR L = (0, 0) then (L, (0, 0)) else ([], faultR L)
def RsRet (w : World) (r : List Rule × (Int × Int)) (e : Ending) (w' : World) : Prop :=
  ∃ v, e = .returned (.tuple #[v, fAgg r.2]) ∧ w'.ownsRow w.heap.size 54 5 v r.1.length (rulesV r.1) ∧ Ext w w'
theorem rsret_nil {w w' : World} {R : List Rule × (Int × Int)} {p : Int × Int} (h : R = ([], p)) (hx : Ext w w') : RsRet w R (.returned (.tuple #[.slice none 0 0, fAgg p])) w' := by
  rw [h]
  exact ⟨_, rfl, ⟨rfl, .inl ⟨rfl, rfl⟩⟩, hx⟩
/-- More rules ahead. -/
def ahead (out : List Rule) : Except Nat (List Rule) → Except Nat (List Rule)
  | .error k => .error k
  | .ok M => .ok (out ++ M)
theorem ahead_nil (x : Except Nat (List Rule)) : ahead [] x = x := by cases x <;> rfl
theorem rd_bad {i : Nat} {s : List Int} {t : List (List Int)} (ht : t ≠ []) (h : Tape.rdRule s = none) : Tape.rdL i (s :: t) = .error i := by
  cases t with
  | nil => exact absurd rfl ht
  | cons a t => rw [Tape.rdL, h]
theorem rd_good {i : Nat} {s : List Int} {t : List (List Int)} {out : List Rule} {r : Rule} (ht : t ≠ []) (h : Tape.rdRule s = some r) : ahead out (Tape.rdL i (s :: t)) = ahead (out ++ [r]) (Tape.rdL (i + 1) t) := by
  cases t with
  | nil => exact absurd rfl ht
  | cons a t =>
    rw [Tape.rdL, h]
    simp only
    cases Tape.rdL (i + 1) (a :: t) with
    | error k => rfl
    | ok M => simp [ahead]
theorem num_i64 {l : List Int} {n : Nat} (h : Tape.rdNum l = some n) : n < 9223372036854775808 := by
  unfold Tape.rdNum at h
  split at h
  · rename_i q
    injection h with h
    rw [← h]; exact q.2
  · cases h
theorem nat_i64 {n : Nat} (h : n < 9223372036854775808) : I64 (n : Int) := ⟨by omega, by omega⟩
theorem rule_wf {l : List Int} {r : Rule} (h : Tape.rdRule l = some r) : RuleWf r := by
  unfold Tape.rdRule at h
  split at h
  · unfold Tape.rdFive at h
    split at h
    · rename_i x y z m n h1 h2 h3 h4 h5
      injection h with h
      subst h
      refine ⟨nat_i64 (num_i64 h1), nat_i64 (num_i64 h2), nat_i64 (num_i64 h3), ?_, ?_⟩
      · unfold Tape.mvOf at h4
        split at h4
        · injection h4 with h4; subst h4; show I64 (-1 : Int); exact ⟨by decide, by decide⟩
        split at h4
        · injection h4 with h4; subst h4; show I64 (0 : Int); exact ⟨by decide, by decide⟩
        split at h4
        · injection h4 with h4; subst h4; show I64 (1 : Int); exact ⟨by decide, by decide⟩
        · cases h4
      · unfold Tape.nxOf at h5
        split at h5
        · injection h5 with h5; subst h5; show I64 (-1 : Int); exact ⟨by decide, by decide⟩
        · rcases hq : Tape.rdNum _ with _ | k
          · rw [hq] at h5; cases h5
          · rw [hq] at h5
            have : (k : Int) = n := by simpa using h5
            subst this
            exact nat_i64 (num_i64 hq)
    · cases h
  · cases h
/-- The first line of a text, and the rest. -/
structure CutAt (T s t : ByteArray) : Prop where
  split : splitP 10 (numsT T) = numsT s :: splitP 10 (numsT t)
  size : s.size + 1 + t.size = T.size
theorem cut_hit {T : ByteArray} (h : (10 : UInt8) ∈ T.data.toList) : CutAt T ⟨(tw 10 T.data.toList).toArray⟩ ⟨((dw 10 T.data.toList).drop 1).toArray⟩ := by
  constructor
  · rw [nums8_of, nums8_of, nums_of]
    have e := split_nums 10 T.data.toList
    rw [Tape.splitP_hit h] at e
    rw [show ((10 : UInt8).toNat : Int) = 10 from rfl] at e
    rw [e, List.map_cons, ← split_nums]
    rfl
  · have h1 := tw_dw 10 T.data.toList
    have h2 : (tw 10 T.data.toList).length + (dw 10 T.data.toList).length = T.data.toList.length := by rw [← List.length_append, h1]
    have h3 : dw 10 T.data.toList ≠ [] := by
      intro e
      have hi := index_single 10 T.data.toList
      rw [e, List.append_nil] at h1
      rw [if_pos h, h1] at hi
      have := Lib.index_le T.data.toList [10]
      have hs := split_count 10 (T.data.toList.length + 1) T.data.toList (by omega)
      have e2 := Tape.splitP_hit h
      rw [show T.data.toList.dropWhile (fun x => decide (x ≠ 10)) = [] from e] at e2
      have e3 := Tape.join_split (10 : UInt8) T.data.toList
      rw [e2] at e3
      have e4 := congrArg List.length e3
      rw [show T.data.toList.takeWhile (fun x => decide (x ≠ 10)) = T.data.toList from h1] at e4
      simp [splitP, Tape.joinP] at e4
    have h4 : 1 ≤ (dw 10 T.data.toList).length := Nat.pos_of_ne_zero (fun q => h3 (List.eq_nil_of_length_eq_zero q))
    have s1 : (⟨(tw 10 T.data.toList).toArray⟩ : ByteArray).size = (tw 10 T.data.toList).length := List.size_toArray
    have s2 : (⟨((dw 10 T.data.toList).drop 1).toArray⟩ : ByteArray).size = ((dw 10 T.data.toList).drop 1).length := List.size_toArray
    have s3 : T.size = T.data.toList.length := (Array.length_toList).symm
    rw [s1, s2, s3, List.length_drop]
    omega
theorem cut_miss {T : ByteArray} (h : ¬ (10 : UInt8) ∈ T.data.toList) : splitP 10 (numsT T) = [numsT T] := by
  apply Tape.splitP_none
  rw [nums_of]
  intro q
  exact h ((mem_nums (k := 10)).1 q)
theorem empty_str {T : ByteArray} (h : T.size = 0) : T = ⟨#[]⟩ := by
  apply ByteArray.ext
  exact Array.eq_empty_of_size_eq_zero h
theorem nonempty_nums {T : ByteArray} (h : T.size ≠ 0) : numsT T ≠ [] := fun q => h (by rw [← numsT_len, q]; rfl)
end Go.Proofs.YtbaahbpianingaaGreatDoor
namespace Go.Proofs.YtbaahbpianingaaGreatDoor
open Go Go.Proofs Go.RowKit
open Tape (Rule Ts splitP)
set_option maxHeartbeats 12800000
set_option maxRecDepth 100000
theorem readT_long (S : ByteArray) (w : World) (hl : S.size ≤ maxLen) (h : 4000 < S.size) : Calls Tryz.prog 18 #[.string S] w (RsRet w (readT (numsT S))) := by
  have he : readT (numsT S) = ([], (3, -1)) := by unfold readT; rw [if_pos (by rw [numsT_len]; exact h)]
  unfold maxLen at hl
  have HE := Lib.hid he
  clear he
  go_enter Tryz.func18, Tryz.ntmps18
  go_wp2_with (go_at_call 24; refine (tfault_c _ _ _).mono ?_; rintro e w' ⟨rfl, rfl⟩)
  refine bodyPost_ret (results_tc Tryz.results18 _ _ w.heap.size 27 #[.int .i64 3, .int .i64 (-1)] (0, 0) _ rfl (heap_alloc2_old w _ _) Tryz.underlying27 rfl sizeF) rfl (rsret_nil HE.out (((Ext.refl w).alloc _).alloc _))
/-- What holds ahead of line i. -/
structure RdIsT (w wx : World) (S T : ByteArray) (i : Nat) (out : List Rule) (v : Value) : Prop where
  g : wx.heap[w.heap.size]? = some (.cells #[.int .i64 0, .int .i64 0] 27 (0, 0))
  own : wx.ownsRow (w.heap.size + 1) 54 5 v out.length (rulesV out)
  len : out.length = i
  wf : ∀ r ∈ out, RuleWf r
  res : Tape.rdL 0 (splitP 10 (numsT S)) = ahead out (Tape.rdL i (splitP 10 (numsT T)))
  size : i + T.size ≤ 4000
  x : Ext w wx
theorem readT_bad {S T : ByteArray} {i : Nat} {out : List Rule} (hl : S.size ≤ 4000) (h : Tape.rdL 0 (splitP 10 (numsT S)) = ahead out (Tape.rdL i (splitP 10 (numsT T)))) (hb : Tape.rdL i (splitP 10 (numsT T)) = .error i) : readT (numsT S) = ([], (1, (i : Int))) := by
  unfold readT
  rw [if_neg (by rw [numsT_len]; omega), h, hb]
  rfl
theorem readT_ok {S : ByteArray} {out : List Rule} {i : Nat} (hl : S.size ≤ 4000) (h : Tape.rdL 0 (splitP 10 (numsT S)) = ahead out (Tape.rdL i (splitP 10 (numsT ⟨#[]⟩)))) : readT (numsT S) = if faultR out = (0, 0) then (out, (0, 0)) else ([], faultR out) := by
  have e : Tape.rdL i (splitP 10 (numsT ⟨#[]⟩)) = .ok [] := rfl
  unfold readT
  rw [if_neg (by rw [numsT_len]; omega), h, e]
  show (if faultR (out ++ []) = (0, 0) then (out ++ [], ((0 : Int), (0 : Int))) else ([], faultR (out ++ []))) = _
  rw [List.append_nil]
theorem slc_at {W : World} {g : Nat} {e : TypeId} (h : g = W.heap.size) (xs : List Value) : SlC (W.alloc (.cells xs.toArray e)) (some ⟨g, 0, none⟩) xs := by
  subst h
  intro i u hu
  refine ⟨_, rfl, ?_⟩
  rw [add_off, Nat.zero_add, blk_cell (heap_alloc_new W _)]
  simpa using hu
theorem run_buildSlice_rule (r : Rule) (w : World) : (Instr.buildSlice 22 1 #[(0, .agg (ruleV r).toArray)]).run Tryz.prog w = .ok (.slice (some ⟨w.heap.size, 0, none⟩) 1 1) (w.alloc (.cells (ruleV r).toArray 54)) := by kernel_rfl
theorem wpList_buildSlice_rule {w : World} {ops : Array Oper} {rest : List Oper} {o : Oper} {a : Act} {Q : Exit → Act → World → Prop} (hgd : o.guard = none) (x : Operand) (ho : o.op = .buildSlice 22 1 #[(0, x)]) (r : Rule) (hx : a.eval x = .agg (ruleV r).toArray)
    (h : wpList Tryz.prog ops Q rest (a.put o.dst (.slice (some ⟨w.heap.size, 0, none⟩) 1 1)) (w.alloc (.cells (ruleV r).toArray 54))) : wpList Tryz.prog ops Q (o :: rest) a w := by
  refine wpList_plain hgd fun K hK => ?_
  unfold Oper.wp execOp
  simp only [ho, List.map_toArray, List.map_cons, List.map_nil, hx, Sem.run_bind, run_buildSlice_rule, Sem.run_pure, Result.andThen_ok]
  exact hK _ _ h
theorem rule_one (r : Rule) : ∀ u ∈ ruleV r, u.oneCell' = true := by
  intro u hu
  simp only [ruleV, List.mem_cons, List.not_mem_nil, or_false] at hu
  rcases hu with rfl | rfl | rfl | rfl | rfl <;> rfl
theorem ext_grown {w wx w2 : World} {row : Option Nat} (h : Ext w wx) (hg : wx.grownBy w2 row) (hr : ∀ g, row = some g → w.heap.size ≤ g) : Ext w w2 :=
  ⟨hg.os.trans h.os, hg.tape.trans h.tape, hg.output.trans h.output, Nat.le_trans h.size hg.size, fun k hk => (hg.block k (Nat.lt_of_lt_of_le hk h.size) (fun e => by have := hr k e.symm; omega)).trans (h.block k hk)⟩
theorem rulesV_snoc (out : List Rule) (r : Rule) : rulesV (out ++ [r]) = rulesV out ++ ruleV r := by
  rw [rulesV_append]
  show _ ++ (ruleV r ++ []) = _
  rw [List.append_nil]
section
variable {w wx w2 : World} {S T : ByteArray} {i : Nat} {out : List Rule} {v : Value}
theorem RdIsT.ext (h : RdIsT w wx S T i out v) (e : Ext wx w2) : RdIsT w w2 S T i out v := ⟨ext_heap e h.g, town_ext h.own e, h.len, h.wf, h.res, h.size, h.x.trans e⟩
theorem RdIsT.next {t : ByteArray} {s : ByteArray} {r : Rule} {v' : Value} (h : RdIsT w wx S T i out v) (hc : CutAt T s t) (hr : Tape.rdRule (numsT s) = some r) (ho : w2.ownsRow (w.heap.size + 1) 54 5 v' (out.length + 1) (rulesV out ++ ruleV r)) (hg : wx.grownBy w2 v.ownBlock) : RdIsT w w2 S t (i + 1) (out ++ [r]) v' := by
  have hb : ∀ g, v.ownBlock = some g → w.heap.size + 1 ≤ g := fun g hg => (own_lt h.own hg).1
  have hl : w.heap.size < wx.heap.size := (Array.getElem?_eq_some_iff.1 h.g).1
  refine ⟨(hg.block _ hl (fun e => by have := hb _ e.symm; omega)).trans h.g, ?_, by rw [List.length_append, h.len]; rfl, ?_, ?_, ?_, ext_grown h.x hg (fun g hq => by have := hb g hq; omega)⟩
  · rw [List.length_append, rulesV_snoc]; exact ho
  · intro q hq
    rcases List.mem_append.1 hq with e | e
    · exact h.wf q e
    · rw [List.mem_singleton.1 e]; exact rule_wf hr
  · rw [h.res, hc.split, rd_good (Tape.splitP_ne _ _) hr]
  · have := h.size
    have := hc.size
    omega
end
theorem rsret_mk {w W : World} {R : List Rule × (Int × Int)} {v : Value} {out : List Rule} {p : Int × Int} (h : R = (out, p)) (ho : W.ownsRow (w.heap.size + 1) 54 5 v out.length (rulesV out)) (hx : Ext w W) : RsRet w R (.returned (.tuple #[v, fAgg p])) W := by
  rw [h]
  exact ⟨_, rfl, town_base ho (by omega), hx⟩
theorem readT_short (S : ByteArray) (w : World) (hl : S.size ≤ 4000) (ht : TabT w) : Calls Tryz.prog 18 #[.string S] w (RsRet w (readT (numsT S))) := by
  have HLS := Lib.hid hl
  have HT := Lib.hid ht
  obtain ⟨R, hR⟩ : ∃ R, R = readT (numsT S) := ⟨_, rfl⟩
  have HR := Lib.hid hR
  rw [← hR]
  clear ht hR
  go_enter Tryz.func18, Tryz.ntmps18
  go_wp2
  go_loopw [0, 4, 5] (fun t0 t4 t5 wx => ∃ i : Nat, ∃ T v out, t0 = .string T ∧ t4 = v ∧ t5 = .int .i64 i ∧ RdIsT w wx S T i out v) (fun t0 _ _ _ => strLen t0)
  case atStart => exact ⟨0, S, _, [], rfl, rfl, rfl, ⟨heap_alloc_new w _, ⟨rfl, .inl ⟨rfl, rfl⟩⟩, rfl, fun r hr => by simp at hr, (ahead_nil _).symm, by omega, (Ext.refl w).alloc _⟩⟩
  case round =>
    obtain ⟨i, T, v, out, rfl, rfl, rfl, hrd⟩ := hrel
    have HRD := Lib.hid hrd
    have hsz := hrd.size
    clear hrd
    by_cases h0 : T.size = 0
    · have e := empty_str h0
      subst e
      have HRO := Lib.hid (readT_ok HLS.out HRD.out.res)
      obtain ⟨A, c, hv, v1, v2, v3, v4⟩ := own_sl5 HRD.out.own
      subst hv
      have HCK := Lib.hid (checkRules_c A out c wr (Nat.le_trans v1 v2) v4 HRD.out.wf)
      obtain ⟨p, hp⟩ : ∃ p, faultR out = p := ⟨_, rfl⟩
      obtain ⟨fc, fi⟩ := p
      have HP := Lib.hid hp
      have hol : out.length ≤ 4000 := by have := HRD.out.len; omega
      rw [hp] at HCK
      clear v1 v2 v3 v4 hp
      by_cases hg : faultR out = (0, 0)
      · have HRE : Hid (R = (out, (0, 0))) := Lib.hid (by rw [HR.out, HRO.out, if_pos hg])
        have hfc : fc = 0 := by have := HP.out; rw [hg] at this; cases this; rfl
        have hfi : fi = 0 := by have := HP.out; rw [hg] at this; cases this; rfl
        subst hfc hfi
        clear hg
        obtain ⟨nn, hnn⟩ : ∃ nn, nn = out.length := ⟨_, rfl⟩
        have HNN := Lib.hid hnn
        rw [← hnn] at HCK hol ⊢
        clear hnn
        go_wp2_with fail
        refine HCK.out.mono ?_
        rintro e w1 ⟨rfl, hx1⟩
        have HR1 := Lib.hid (HRD.out.ext hx1)
        obtain ⟨c0, c1, f0, f1⟩ := Blk2.mk' HR1.out.g
        have hlt : w.heap.size < w1.heap.size := (Array.getElem?_eq_some_iff.1 HR1.out.g).1
        clear hx1
        simp only [fAgg]
        go_wp2
        refine bodyPost_ret (results_tc Tryz.results18 _ _ w.heap.size 27 #[.int .i64 0, .int .i64 0] (0, 0) _ rfl (fblk_fin HR1.out.g _) Tryz.underlying27 rfl sizeF) rfl (rsret_mk HRE.out (by rw [HNN.out]; exact town_ext (own_setLow (own_setLow HR1.out.own (g := w.heap.size) (by omega) _) (g := w.heap.size) (by omega) _) ((Ext.refl _).alloc _)) (Ext.alloc (ext_set2 HR1.out.x (Nat.le_refl _) _ _) _))
      · have HRE : Hid (R = ([], (fc, fi))) := Lib.hid (by rw [HR.out, HRO.out, if_neg hg, HP.out])
        have q1 : (fc == 0) = false := by have := faultR_code hg; rw [HP.out] at this; simpa using this
        have q2 : ¬ fc = 0 := by simpa using q1
        clear hg
        go_wp2_with fail
        refine HCK.out.mono ?_
        rintro e w1 ⟨rfl, hx1⟩
        have HR1 := Lib.hid (HRD.out.ext hx1)
        obtain ⟨c0, c1, f0, f1⟩ := Blk2.mk' HR1.out.g
        have hlt : w.heap.size < w1.heap.size := (Array.getElem?_eq_some_iff.1 HR1.out.g).1
        clear hx1
        simp only [fAgg]
        go_wp2
        go_region
        go_wp2
        refine bodyPost_ret (results_tc Tryz.results18 _ _ w.heap.size 27 #[.int .i64 fc, .int .i64 fi] (0, 0) _ rfl (fblk_fin HR1.out.g _) Tryz.underlying27 rfl sizeF) rfl (rsret_nil HRE.out (Ext.drew (Ext.alloc (ext_set2 HR1.out.x (Nat.le_refl _) _ _) _)))
    · have hne : T.toList.isEmpty = false := by
        rw [ByteArray.toList_eq, List.isEmpty_eq_false_iff]
        intro q
        have := congrArg List.length q
        rw [Array.length_toList] at this
        exact h0 this
      obtain ⟨m, hm⟩ := (HT.out.ext HRD.out.x).m
      have HCUT := Lib.hid (Tryz.strings_Cut T ⟨#[10]⟩ m wr (by omega) hm)
      clear hm
      by_cases h10 : (10 : UInt8) ∈ T.data.toList
      · have hcs := cut_single 10 T.data.toList
        rw [if_pos h10] at hcs
        have HC := Lib.hid (cut_hit h10)
        have hd : (⟨#[10]⟩ : ByteArray).data.toList = [10] := rfl
        rw [hd, hcs] at HCUT
        clear hd hcs h10
        generalize (⟨(tw 10 T.data.toList).toArray⟩ : ByteArray) = s1 at *
        generalize (⟨((dw 10 T.data.toList).drop 1).toArray⟩ : ByteArray) = t1 at *
        have hcz := HC.out.size
        have HRR := Lib.hid (fun (W : World) (x : Ext w W) => readRule_c s1 W (by omega) (HT.out.ext x))
        go_upto_region 8 with (go_at_call 40; refine HCUT.out.mono ?_; rintro e w' ⟨rfl, q, rfl⟩)
        have HRA := Lib.hid (HRD.out.ext ((Ext.refl wr).drewN q))
        generalize wr.drewN q = wa at *
        go_wp2_with fail
        refine (HRR.out _ HRA.out.x).mono ?_
        rintro e w2 ⟨hx2, r, ok, rfl, hok, hno⟩
        have HR2 := Lib.hid (HRA.out.ext hx2)
        have HZ := Lib.hid (heap_alloc_new w2 (.cells #[.int .i64 0, .int .i64 0, .int .i64 0, .int .i64 0, .int .i64 0] 54))
        have HX3 : Hid (Ext w2 ((w2.alloc (.cells #[.int .i64 0, .int .i64 0, .int .i64 0, .int .i64 0, .int .i64 0] 54)).setRow w2.heap.size (ruleV r).toArray)) := Lib.hid (((Ext.refl w2).alloc _).setRow (Nat.le_refl _) _)
        have HY := Lib.hid (setRow_heap _ _ _ (ruleV r).toArray _ _ HZ.out)
        have hg2 : w.heap.size < w2.heap.size := (Array.getElem?_eq_some_iff.1 HR2.out.g).1
        clear hx2
        cases ok with
        | true =>
          have HOK := Lib.hid (hok rfl)
          clear hok hno
          obtain ⟨ir, hi, hz0, hz1, hz2⟩ := info_parts infoR
          have HI := Lib.hid hi
          have HZ0 := Lib.hid hz0
          have HZ1 := Lib.hid hz1
          have HZ2 := Lib.hid hz2
          have HO4 : Hid (((((w2.alloc (.cells #[.int .i64 0, .int .i64 0, .int .i64 0, .int .i64 0, .int .i64 0] 54)).setRow w2.heap.size (ruleV r).toArray).alloc (.cells (ruleV r).toArray 54))).ownsRow (w.heap.size + 1) 54 5 u4 out.length (rulesV out)) := Lib.hid (town_ext HR2.out.own (HX3.out.alloc _))
          have HR4 := Lib.hid (HR2.out.ext (HX3.out.alloc (.cells (ruleV r).toArray 54)))
          have hol : out.length ≤ 4000 := by have := HR2.out.len; omega
          clear hi hz0 hz1 hz2
          go_wp2_with (first | refine wpList_store_row rfl 54 _ _ rfl w2.heap.size (ruleV r).toArray rfl rfl 54 _ HZ.out sizeR rfl (ruleV_one r) ?_ | refine wpList_load_row rfl 54 _ rfl w2.heap.size rfl 54 (ruleV r).toArray (0, 0) _ HY.out Tryz.underlying54 rfl sizeR ?_ | refine wpList_buildSlice_rule rfl _ rfl r rfl ?_ | (at_builtin; refine wpList_append_sl rfl _ _ 22 rfl (w.heap.size + 1) 54 ir _ 5 40 Tryz.underlying22 HI.out HZ0.out HZ1.out HZ2.out rfl (by decide) u4 out.length (rulesV out) rfl HO4.out (some ⟨_, 0, none⟩) 1 1 (ruleV r) rfl (slc_at rfl (ruleV r)) rfl (rule_one r) (by unfold maxLen; omega) (by omega) (by simp; omega) ?_; intro v5 w5 ho5 hg5 h5; have HN5 := Lib.hid (HR4.out.next HC.out HOK.out ho5 hg5); clear ho5 hg5 h5))
          go_roundw
          case rel => exact ⟨i + 1, t1, _, out ++ [r], rfl, rfl, by go_num, HN5.out⟩
          case measure => simp [strLen]; omega
        | false =>
          have HRE : Hid (R = ([], ((1 : Int), (i : Int)))) := Lib.hid (by rw [HR.out]; exact readT_bad HLS.out HRD.out.res (by rw [HC.out.split]; exact rd_bad (Tape.splitP_ne _ _) (hno rfl)))
          have HFL := Lib.hid (ext_heap HX3.out HR2.out.g)
          have HXX := Lib.hid (HR2.out.x.trans HX3.out)
          clear hok hno
          go_wp2_with (first | refine wpList_store_row rfl 54 _ _ rfl w2.heap.size (ruleV r).toArray rfl rfl 54 _ HZ.out sizeR rfl (ruleV_one r) ?_ | (go_at_call 24; refine (tfault_c _ _ _).mono ?_; rintro e w' ⟨rfl, rfl⟩; obtain ⟨c0, c1, f0, f1⟩ := Blk2.mk' HFL.out))
          refine bodyPost_ret (results_tc Tryz.results18 _ _ w.heap.size 27 #[.int .i64 1, .int .i64 (i : Int)] (0, 0) _ rfl (by first | exact fblk_fin (c := 1) (i := (i : Int)) HFL.out _ | exact fblk_set (c := 1) (i := (i : Int)) HFL.out) Tryz.underlying27 rfl sizeF) rfl (rsret_nil HRE.out (by first | exact Ext.alloc (ext_set2 HXX.out (Nat.le_refl _) (.int .i64 1) (.int .i64 (i : Int))) _ | exact ext_set2 HXX.out (Nat.le_refl _) (.int .i64 1) (.int .i64 (i : Int))))
      · have hcs := cut_single 10 T.data.toList
        rw [if_neg h10] at hcs
        have HM := Lib.hid (cut_miss h10)
        have hd : (⟨#[10]⟩ : ByteArray).data.toList = [10] := rfl
        rw [hd, hcs] at HCUT
        have hTT : (⟨T.data.toList.toArray⟩ : ByteArray) = T := by rw [Array.toArray_toList]
        rw [hTT] at HCUT
        have HNE := Lib.hid (nonempty_nums h0)
        clear hd hcs h10 hTT
        have HRR := Lib.hid (fun (W : World) (x : Ext w W) => readRule_c T W (by omega) (HT.out.ext x))
        have HRE : Hid (R = ([], ((1 : Int), (i : Int)))) := Lib.hid (by
          rw [HR.out]
          refine readT_bad HLS.out HRD.out.res ?_
          rw [HM.out, Tape.rdL, if_neg HNE.out])
        go_upto_region 8 with (go_at_call 40; refine HCUT.out.mono ?_; rintro e w' ⟨rfl, q, rfl⟩)
        have HRA := Lib.hid (HRD.out.ext ((Ext.refl wr).drewN q))
        generalize wr.drewN q = wa at *
        go_wp2_with fail
        refine (HRR.out _ HRA.out.x).mono ?_
        rintro e w2 ⟨hx2, r, ok, rfl, hok, hno⟩
        have HR2 := Lib.hid (HRA.out.ext hx2)
        have HZ := Lib.hid (heap_alloc_new w2 (.cells #[.int .i64 0, .int .i64 0, .int .i64 0, .int .i64 0, .int .i64 0] 54))
        have HX3 : Hid (Ext w2 ((w2.alloc (.cells #[.int .i64 0, .int .i64 0, .int .i64 0, .int .i64 0, .int .i64 0] 54)).setRow w2.heap.size (ruleV r).toArray)) := Lib.hid (((Ext.refl w2).alloc _).setRow (Nat.le_refl _) _)
        have hg2 : w.heap.size < w2.heap.size := (Array.getElem?_eq_some_iff.1 HR2.out.g).1
        have HFL := Lib.hid (ext_heap HX3.out HR2.out.g)
        have HXX := Lib.hid (HR2.out.x.trans HX3.out)
        clear hx2 hok hno
        cases ok
        all_goals go_wp2_with (first | refine wpList_store_row rfl 54 _ _ rfl w2.heap.size (ruleV r).toArray rfl rfl 54 _ HZ.out sizeR rfl (ruleV_one r) ?_ | (go_at_call 24; refine (tfault_c _ _ _).mono ?_; rintro e w' ⟨rfl, rfl⟩; obtain ⟨c0, c1, f0, f1⟩ := Blk2.mk' HFL.out))
        all_goals refine bodyPost_ret (results_tc Tryz.results18 _ _ w.heap.size 27 #[.int .i64 1, .int .i64 (i : Int)] (0, 0) _ rfl (by first | exact fblk_fin (c := 1) (i := (i : Int)) HFL.out _ | exact fblk_set (c := 1) (i := (i : Int)) HFL.out) Tryz.underlying27 rfl sizeF) rfl (rsret_nil HRE.out (by first | exact Ext.alloc (ext_set2 HXX.out (Nat.le_refl _) (.int .i64 1) (.int .i64 (i : Int))) _ | exact ext_set2 HXX.out (Nat.le_refl _) (.int .i64 1) (.int .i64 (i : Int))))
theorem readT_all (S : ByteArray) (w : World) (hl : S.size ≤ maxLen) (ht : TabT w) : Calls Tryz.prog 18 #[.string S] w (RsRet w (readT (numsT S))) := by
  by_cases h : 4000 < S.size
  · exact readT_long S w hl h
  · exact readT_short S w (by omega) ht
end Go.Proofs.YtbaahbpianingaaGreatDoor
namespace Go.Proofs.YtbaahbpianingaaGreatDoor
open Go Go.Proofs Go.RowKit
open Acc (Dk red five)
set_option maxHeartbeats 1600000
set_option maxRecDepth 100000
def eqTo (l m : List Int) (k : Nat) : Prop := l.take k = m.take k
theorem eqTo_succ {l m : List Int} {k : Nat} (h : eqTo l m k) (h1 : k < l.length) (h2 : k < m.length) (he : l[k]?.getD 0 = m[k]?.getD 0) : eqTo l m (k + 1) := by
  rw [List.getElem?_eq_getElem h1, List.getElem?_eq_getElem h2] at he
  simp only [Option.getD_some] at he
  unfold eqTo at *
  rw [List.take_succ_eq_append_getElem h1, List.take_succ_eq_append_getElem h2, h, he]
theorem eqTo_no {l m : List Int} {k : Nat} (he : l[k]?.getD 0 ≠ m[k]?.getD 0) : decide (l = m) = false := by
  rw [decide_eq_false_iff_not]; rintro rfl; exact he rfl
theorem eqTo_all {l m : List Int} {k : Nat} (h : eqTo l m k) (h1 : l.length ≤ k) (h2 : m.length ≤ k) : decide (l = m) = true := by
  unfold eqTo at h
  rw [List.take_of_length_le h1, List.take_of_length_le h2] at h
  simpa using h
theorem Ints_c (A B : Option Addr) (l m : List Int) (c d : Nat) (w : World) (hl : l.length ≤ maxLen) (hm : m.length ≤ maxLen) (h1 : Sl w .i64 A l) (h2 : Sl w .i64 B m) :
    Calls Tryz.prog 14 #[.slice A l.length c, .slice B m.length d] w fun e w' => e = .returned (.bool (decide (l = m))) ∧ ∃ n, w' = w.drewN n := by
  unfold maxLen at hl hm
  by_cases hn : l.length = m.length
  · obtain ⟨q, hq⟩ : ∃ q, q = l.length := ⟨_, rfl⟩
    rw [← hq] at hl
    rw [← hn, ← hq]
    have HQ := Lib.hid hq
    have HN := Lib.hid hn
    clear hq hn hm
    go_enter Tryz.func14, Tryz.ntmps14
    go_wp2
    go_loopw [5] (fun i wr => ∃ k : Nat, ∃ n : Nat, k ≤ q ∧ i = .int .i64 k ∧ eqTo l m k ∧ wr = w.drewN n) (fun i _ => q - (intOf i).toNat)
    case atStart => exact ⟨0, 0, Nat.zero_le _, rfl, rfl, rfl⟩
    case round =>
      obtain ⟨k, n, hk, rfl, hr, rfl⟩ := hrel
      by_cases hlt : k < q
      · have hkl : k < l.length := by rw [← HQ.out]; exact hlt
        have hkm : k < m.length := by rw [← HN.out, ← HQ.out]; exact hlt
        obtain ⟨b, o, rfl, ha⟩ := h1.at_ hkl
        obtain ⟨b', o', rfl, hb⟩ := h2.at_ hkm
        have HK := Lib.hid hkl
        have HM := Lib.hid hkm
        clear hkl hkm
        go_wp2
        go_quiet (fail)
        go_wp2
        · go_ret
          rename_i hne
          exact ⟨ret_bool (eqTo_no (by simpa using hne)).symm, _, World.drewN_drewN _ _ _⟩
        · rename_i hne
          refine ⟨⟨k + 1, _, by omega, by go_num, eqTo_succ hr HK.out HM.out (by simpa using hne), rfl⟩, by simp [intOf]; omega⟩
      · go_wp2
        go_ret
        exact ⟨ret_bool (eqTo_all hr (by rw [← HQ.out]; omega) (by rw [← HN.out, ← HQ.out]; omega)).symm, _, rfl⟩
  · have hd : ((l.length : Int) != (m.length : Int)) = true := by simp; omega
    have HN := Lib.hid hn
    clear hn
    go_enter Tryz.func14, Tryz.ntmps14
    go_wp2
    go_ret
    exact ⟨ret_bool (by simp; rintro rfl; exact HN.out rfl), 0, rfl⟩
end Go.Proofs.YtbaahbpianingaaGreatDoor
namespace Go.Proofs.YtbaahbpianingaaGreatDoor
open Go Go.Proofs Go.RowKit
open Tape (Rule Ts splitP)
set_option maxHeartbeats 6400000
set_option maxRecDepth 100000
def eqToR (l m : List Rule) (k : Nat) : Prop := l.take k = m.take k
theorem eqToR_succ {l m : List Rule} {k : Nat} {r : Rule} (h : eqToR l m k) (h1 : l[k]? = some r) (h2 : m[k]? = some r) : eqToR l m (k + 1) := by
  unfold eqToR at *
  rw [List.take_add_one, List.take_add_one, h, h1, h2]
theorem eqToR_no {l m : List Rule} {k : Nat} {r q : Rule} (h1 : l[k]? = some r) (h2 : m[k]? = some q) (he : r ≠ q) : decide (l = m) = false := by
  rw [decide_eq_false_iff_not]; rintro rfl; rw [h1] at h2; exact he (by injection h2)
theorem eqToR_all {l m : List Rule} {k : Nat} (h : eqToR l m k) (h1 : l.length ≤ k) (h2 : m.length ≤ k) : decide (l = m) = true := by
  unfold eqToR at h
  rw [List.take_of_length_le h1, List.take_of_length_le h2] at h
  simpa using h
theorem rule_ne {r s : Rule} (h : r ≠ s) : r.st ≠ s.st ∨ (r.st = s.st ∧ r.sy ≠ s.sy) ∨ (r.st = s.st ∧ r.sy = s.sy ∧ r.wr ≠ s.wr) ∨ (r.st = s.st ∧ r.sy = s.sy ∧ r.wr = s.wr ∧ r.mv ≠ s.mv) ∨ (r.st = s.st ∧ r.sy = s.sy ∧ r.wr = s.wr ∧ r.mv = s.mv ∧ r.nx ≠ s.nx) := by
  by_cases h1 : r.st = s.st
  · by_cases h2 : r.sy = s.sy
    · by_cases h3 : r.wr = s.wr
      · by_cases h4 : r.mv = s.mv
        · by_cases h5 : r.nx = s.nx
          · exfalso
            apply h
            cases r; cases s
            simp only at h1 h2 h3 h4 h5
            subst h1 h2 h3 h4 h5
            rfl
          · exact .inr (.inr (.inr (.inr ⟨h1, h2, h3, h4, h5⟩)))
        · exact .inr (.inr (.inr (.inl ⟨h1, h2, h3, h4⟩)))
      · exact .inr (.inr (.inl ⟨h1, h2, h3⟩))
    · exact .inr (.inl ⟨h1, h2⟩)
  · exact .inl h1
theorem SameRules_c (A B : Option Addr) (l m : List Rule) (c d : Nat) (w : World) (hl : l.length ≤ maxLen) (hm : m.length ≤ maxLen) (h1 : Rls w A l) (h2 : Rls w B m) :
    Calls Tryz.prog 21 #[.slice A l.length c, .slice B m.length d] w fun e w' => e = .returned (.bool (decide (l = m))) ∧ ∃ n, w' = w.drewN n := by
  unfold maxLen at hl hm
  by_cases hn : l.length = m.length
  · obtain ⟨q, hq⟩ : ∃ q, q = l.length := ⟨_, rfl⟩
    rw [← hq] at hl
    rw [← hn, ← hq]
    have HQ := Lib.hid hq
    have HN := Lib.hid hn
    have H1 := Lib.hid h1
    have H2 := Lib.hid h2
    clear hq hn hm h1 h2
    go_enter Tryz.func21, Tryz.ntmps21
    go_wp2
    go_loopw [5] (fun i wr => ∃ k : Nat, ∃ n : Nat, k ≤ q ∧ i = .int .i64 k ∧ Hid (eqToR l m k) ∧ wr = w.drewN n) (fun i _ => q - (intOf i).toNat)
    case atStart => exact ⟨0, 0, Nat.zero_le _, rfl, Lib.hid rfl, rfl⟩
    case round =>
      obtain ⟨k, n, hk, rfl, hr, rfl⟩ := hrel
      have HR := Lib.hid hr.out
      clear hr
      by_cases hlt : k < q
      · obtain ⟨r, hr1⟩ : ∃ r, l[k]? = some r := ⟨_, List.getElem?_eq_getElem (by rw [← HQ.out]; exact hlt)⟩
        obtain ⟨s, hs1⟩ : ∃ s, m[k]? = some s := ⟨_, List.getElem?_eq_getElem (by rw [← HN.out, ← HQ.out]; exact hlt)⟩
        obtain ⟨b, o, rfl, ⟨a0, a1, a2, a3, a4⟩⟩ := Rls.at_ H1.out hr1
        obtain ⟨b', o', rfl, ⟨b0, b1, b2, b3, b4⟩⟩ := Rls.at_ H2.out hs1
        have HA := Lib.hid hr1
        have HB := Lib.hid hs1
        clear hr1 hs1
        by_cases he : r = s
        · subst he
          have HE := Lib.hid (eqToR_succ HR.out HA.out HB.out)
          go_wp2
          go_quiet (fail)
          go_wp2
          refine ⟨⟨k + 1, _, by omega, by go_num, HE, rfl⟩, by simp [intOf]; omega⟩
        · have HE := Lib.hid (eqToR_no HA.out HB.out he)
          have hc := rule_ne he
          clear he
          rcases hc with q1 | ⟨q1, q2⟩ | ⟨q1, q2, q3⟩ | ⟨q1, q2, q3, q4⟩ | ⟨q1, q2, q3, q4, q5⟩
          all_goals
            go_wp2
            go_quiet (fail)
            go_wp2
            go_ret
            exact ⟨ret_bool HE.out.symm, _, World.drewN_drewN _ _ _⟩
      · go_wp2
        go_ret
        exact ⟨ret_bool (eqToR_all HR.out (by rw [← HQ.out]; omega) (by rw [← HN.out, ← HQ.out]; omega)).symm, _, rfl⟩
  · have hd : ((l.length : Int) != (m.length : Int)) = true := by simp; omega
    have HN := Lib.hid hn
    clear hn
    go_enter Tryz.func21, Tryz.ntmps21
    go_wp2
    go_ret
    exact ⟨ret_bool (by simp; rintro rfl; exact HN.out rfl), 0, rfl⟩
end Go.Proofs.YtbaahbpianingaaGreatDoor
