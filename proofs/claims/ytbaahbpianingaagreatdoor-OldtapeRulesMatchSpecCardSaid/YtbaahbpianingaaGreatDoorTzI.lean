import Derived.Test.YtbaahbpianingaaGreatDoorMg25
import Derived.Test.YtbaahbpianingaaGreatDoorMg26
import Derived.Test.YtbaahbpianingaaGreatDoorMg20
namespace Go.Proofs.YtbaahbpianingaaGreatDoor
open Go Go.Proofs Go.RowKit
open Tape (Rule Ts splitP countF clipR clipI clipN rdNum mvOf nxOf rdFive rdRule)
set_option maxHeartbeats 12800000
set_option maxRecDepth 100000
theorem str_at {w : World} {A : Option Addr} {P : List ByteArray} {i : Nat} {p : ByteArray} (h : SlC w A (P.map Value.string)) (hp : P[i]? = some p) : ∃ b o, A = some ⟨b, o, none⟩ ∧ w.cell? ⟨b, o + i, none⟩ = some (.string p) := by
  obtain ⟨b, o, rfl⟩ := SlC.base h (by rw [List.length_map]; have := (List.getElem?_eq_some_iff.1 hp).1; omega)
  obtain ⟨a, ha, hc⟩ := h i (.string p) (by rw [List.getElem?_map, hp]; rfl)
  cases ha
  exact ⟨b, o, rfl, by rw [add_off] at hc; exact hc⟩
theorem str_cells {w : World} {b o : Nat} {P : List ByteArray} (h : SlC w (some ⟨b, o, none⟩) (P.map Value.string)) {i : Nat} {p : ByteArray} (hp : P[i]? = some p) : w.cell? ⟨b, o + i, none⟩ = some (.string p) := by
  obtain ⟨b', o', e, hc⟩ := str_at h hp
  cases e
  exact hc
theorem count_two (S : ByteArray) (hl : S.size ≤ 5000) : ∃ (a : Nat) (ok : Bool), Hid (∀ W : World, Calls Tryz.prog 43 #[.string S] W fun e w' => e = .returned (.tuple #[.int .i64 (a : Int), .bool ok]) ∧ W = w') ∧ Hid (countF (numsT S) = if ok = true then some a else none) := by
  cases hc : countF (numsT S) with
  | none =>
    refine ⟨0, false, Lib.hid fun W => (count_c S W hl).mono ?_, Lib.hid rfl⟩
    rintro e w' ⟨rfl, rfl⟩
    exact ⟨by rw [hc]; rfl, rfl⟩
  | some n =>
    refine ⟨n, true, Lib.hid fun W => (count_c S W hl).mono ?_, Lib.hid rfl⟩
    rintro e w' ⟨rfl, rfl⟩
    exact ⟨by rw [hc]; rfl, rfl⟩
/-- What is known of the next state, of the move. -/
def NxIs (l : List Int) (d : Int) (ok : Bool) : Prop := if ok = true then ∃ n, nxOf l = some n ∧ clipI n = d else nxOf l = none
def MvIs (l : List Int) (m : Int) : Prop := (m = 9 ∧ mvOf l = none) ∨ (mvOf l = some m ∧ -1 ≤ m ∧ m ≤ 1)
theorem rd_of_count {l : List Int} {a : Nat} {ok : Bool} (h : countF l = if ok = true then some a else none) : (ok = true → ∃ x, rdNum l = some x ∧ clipI (x : Int) = (a : Int)) ∧ (ok = false → rdNum l = none) := by
  rw [Tape.count_rd] at h
  constructor
  · rintro rfl
    cases hr : rdNum l with
    | none => rw [hr] at h; cases h
    | some x =>
      rw [hr] at h
      refine ⟨x, rfl, ?_⟩
      have h2 : clipN x = a := by simpa using h
      unfold clipI
      rw [if_neg (by omega), Int.toNat_natCast, h2]
  · rintro rfl
    cases hr : rdNum l with
    | none => rfl
    | some x => rw [hr] at h; cases h
theorem nxS_halt {l : List Int} (h : l = [72]) : NxIs l (-1) true := by
  unfold NxIs
  rw [if_pos rfl, h]
  exact ⟨-1, by decide, by decide⟩
theorem nxS_num {l : List Int} {a : Nat} {ok : Bool} (h : countF l = if ok = true then some a else none) (hn : l ≠ [72]) : NxIs l (a : Int) ok := by
  have h2 := rd_of_count h
  unfold NxIs nxOf
  rw [if_neg hn]
  cases ok with
  | true =>
    obtain ⟨x, hx, hc⟩ := h2.1 rfl
    rw [if_pos rfl, hx]
    exact ⟨(x : Int), rfl, hc⟩
  | false => rw [if_neg (by decide), h2.2 rfl]; rfl
theorem five_get {qa qb qc qd qe : List Int} {a b c : Nat} {m d : Int} (ha : countF qa = some a) (hb : countF qb = some b) (hc : countF qc = some c) (hm : MvIs qd m) (hm9 : m ≠ 9) (hd : NxIs qe d true) :
    ∃ r, rdFive qa qb qc qd qe = some r ∧ clipR r = ⟨a, b, c, m, d⟩ := by
  obtain ⟨x, hx, ex⟩ := (rd_of_count (ok := true) (by rw [ha]; rfl)).1 rfl
  obtain ⟨y, hy, ey⟩ := (rd_of_count (ok := true) (by rw [hb]; rfl)).1 rfl
  obtain ⟨z, hz, ez⟩ := (rd_of_count (ok := true) (by rw [hc]; rfl)).1 rfl
  obtain ⟨n, hn, en⟩ : ∃ n, nxOf qe = some n ∧ clipI n = d := by unfold NxIs at hd; rwa [if_pos rfl] at hd
  have hmm : mvOf qd = some m := by
    rcases hm with ⟨e, _⟩ | ⟨e, _⟩
    · exact absurd e hm9
    · exact e
  refine ⟨⟨x, y, z, m, n⟩, ?_, ?_⟩
  · unfold rdFive
    rw [hx, hy, hz, hmm, hn]
  · unfold clipR
    simp only [ex, ey, ez, en]
theorem five_noS {qa qb qc qd qe : List Int} {a b c : Nat} {m d : Int} {k0 k1 k2 k4 : Bool} (ha : countF qa = if k0 = true then some a else none) (hb : countF qb = if k1 = true then some b else none) (hc : countF qc = if k2 = true then some c else none) (hm : MvIs qd m) (hd : NxIs qe d k4)
    (h : k0 = false ∨ k1 = false ∨ k2 = false ∨ k4 = false ∨ m = 9) : rdFive qa qb qc qd qe = none := by
  apply five_no
  rcases h with e | e | e | e | e
  · exact .inl ((rd_of_count ha).2 e)
  · exact .inr (.inl ((rd_of_count hb).2 e))
  · exact .inr (.inr (.inl ((rd_of_count hc).2 e)))
  · refine .inr (.inr (.inr (.inr ?_)))
    subst e
    unfold NxIs at hd
    rwa [if_neg (by decide)] at hd
  · refine .inr (.inr (.inr (.inl ?_)))
    rcases hm with ⟨_, q⟩ | ⟨_, q1, q2⟩
    · exact q
    · omega
theorem bad_five {k0 k1 k2 k4 : Bool} {m : Int} (h : true = (!k0 || !k1 || !k2 || !k4 || decide (m = 9))) : k0 = false ∨ k1 = false ∨ k2 = false ∨ k4 = false ∨ m = 9 := by
  cases k0 <;> cases k1 <;> cases k2 <;> cases k4 <;> simp_all
theorem ok_five {k0 k1 k2 k4 : Bool} {m : Int} (h : false = (!k0 || !k1 || !k2 || !k4 || decide (m = 9))) : k0 = true ∧ k1 = true ∧ k2 = true ∧ k4 = true ∧ m ≠ 9 := by
  cases k0 <;> cases k1 <;> cases k2 <;> cases k4 <;> simp_all
theorem str_eqb {q : ByteArray} {k : UInt8} : (q.toList == [k]) = decide (numsT q = [(k.toNat : Int)]) := by
  rw [Bool.eq_iff_iff, beq_iff_eq, decide_eq_true_eq, ByteArray.toList_eq, nums_of]
  constructor
  · intro e; rw [e]; rfl
  · intro e
    unfold nums8 at e
    obtain ⟨x, hx, hxe⟩ := List.map_eq_singleton_iff.1 e
    rw [hx, nat8_inj x k hxe]
theorem clip_wf {r : Rule} (h : RuleWf r) : RuleWf (clipR r) := by
  have hc : ∀ n : Int, I64 n → I64 (clipI n) := fun n hn => by
    unfold clipI clipN
    split
    · exact hn
    · split
      · exact ⟨by decide, by decide⟩
      · rw [Int.toNat_of_nonneg (by omega)]; exact hn
  exact ⟨hc _ h.st, hc _ h.sy, hc _ h.wr, h.mv, hc _ h.nx⟩
/-- What holds ahead of line i. -/
structure RoIs (wl wx : World) (S : ByteArray) (i : Nat) (out : List Rule) (v : Value) : Prop where
  own : wx.ownsRow wl.heap.size 54 5 v out.length (rulesV (out.map clipR))
  len : out.length = i
  wf : ∀ r ∈ out.map clipR, RuleWf r
  res : Tape.rdL 0 (splitP 10 (numsT S)) = ahead out (Tape.rdL i ((splitP 10 (numsT S)).drop i))
  x : Ext wl wx
theorem ro_drop {S : ByteArray} {P : List ByteArray} {i : Nat} {p : ByteArray} (hP : P.map numsT = splitP 10 (numsT S)) (hp : P[i]? = some p) : (splitP 10 (numsT S)).drop i = numsT p :: (splitP 10 (numsT S)).drop (i + 1) := by
  have h : (splitP 10 (numsT S))[i]? = some (numsT p) := by rw [← hP, List.getElem?_map, hp]; rfl
  obtain ⟨h1, h2⟩ := List.getElem?_eq_some_iff.1 h
  rw [List.drop_eq_getElem_cons h1, h2]
theorem ro_last {S : ByteArray} {P : List ByteArray} {i : Nat} (hP : P.map numsT = splitP 10 (numsT S)) (hi : i + 1 = P.length) : (splitP 10 (numsT S)).drop (i + 1) = [] := by
  apply List.drop_eq_nil_of_le
  rw [← hP, List.length_map, hi]
  exact Nat.le_refl _
theorem ro_more {S : ByteArray} {P : List ByteArray} {i : Nat} (hP : P.map numsT = splitP 10 (numsT S)) (hi : i + 1 < P.length) : (splitP 10 (numsT S)).drop (i + 1) ≠ [] := by
  intro q
  have := congrArg List.length q
  rw [List.length_drop, ← hP, List.length_map] at this
  simp at this
  omega
theorem ro_bad {wl wx : World} {S : ByteArray} {i : Nat} {out : List Rule} {v : Value} (hl : S.size ≤ 4000) (h : RoIs wl wx S i out v) (hb : Tape.rdL i ((splitP 10 (numsT S)).drop i) = .error i) : readT (numsT S) = ([], (1, (i : Int))) := by
  unfold readT
  rw [if_neg (by rw [numsT_len]; omega), h.res, hb]
  rfl
theorem ro_end {wl wx : World} {S : ByteArray} {i : Nat} {out : List Rule} {v : Value} (hl : S.size ≤ 4000) (h : RoIs wl wx S i out v) (hb : Tape.rdL i ((splitP 10 (numsT S)).drop i) = .ok []) :
    readT (numsT S) = if faultR (out.map clipR) = (0, 0) then (out.map clipR, (0, 0)) else ([], faultR (out.map clipR)) := by
  refine readS_ok (by rw [numsT_len]; omega) ?_
  rw [h.res, hb]
  show Except.ok (out ++ []) = _
  rw [List.append_nil]
theorem ro_next {wl wx w2 : World} {S : ByteArray} {P : List ByteArray} {i : Nat} {out : List Rule} {v v' : Value} {p : ByteArray} {r : Rule} (h : RoIs wl wx S i out v) (hP : P.map numsT = splitP 10 (numsT S)) (hp : P[i]? = some p) (hi : i + 1 < P.length) (hr : rdRule (numsT p) = some r)
    (ho : w2.ownsRow wl.heap.size 54 5 v' (out.length + 1) (rulesV (out.map clipR) ++ ruleV (clipR r))) (hg : wx.grownBy w2 v.ownBlock) : RoIs wl w2 S (i + 1) (out ++ [r]) v' := by
  have hb : ∀ g, v.ownBlock = some g → wl.heap.size ≤ g := fun g hg => (own_lt h.own hg).1
  refine ⟨?_, by rw [List.length_append, h.len]; rfl, ?_, ?_, ext_grown h.x hg hb⟩
  · rw [List.length_append, List.map_append, List.map_cons, List.map_nil, rulesV_snoc]; exact ho
  · intro q hq
    rw [List.map_append] at hq
    rcases List.mem_append.1 hq with e | e
    · exact h.wf q e
    · rw [List.map_cons, List.map_nil, List.mem_singleton] at e; rw [e]; exact clip_wf (rule_wf hr)
  · rw [h.res, ro_drop hP hp, rd_good (ro_more hP hi) hr]
theorem run_build_rl (a b c d e : Int) (w : World) : (Instr.build 54 #[(0, .int .i64 a), (1, .int .i64 b), (2, .int .i64 c), (3, .int .i64 d), (4, .int .i64 e)]).run Tryz.prog w = .ok (.agg (ruleV ⟨a, b, c, d, e⟩).toArray) w := by kernel_rfl
theorem wpList_build_rl {w : World} {ops : Array Oper} {rest : List Oper} {o : Oper} {a : Act} {Q : Exit → Act → World → Prop} (hgd : o.guard = none) (x0 x1 x2 x3 x4 : Operand) (ho : o.op = .build 54 #[(0, x0), (1, x1), (2, x2), (3, x3), (4, x4)]) (r : Rule)
    (h0 : a.eval x0 = .int .i64 r.st) (h1 : a.eval x1 = .int .i64 r.sy) (h2 : a.eval x2 = .int .i64 r.wr) (h3 : a.eval x3 = .int .i64 r.mv) (h4 : a.eval x4 = .int .i64 r.nx)
    (h : wpList Tryz.prog ops Q rest (a.put o.dst (.agg (ruleV r).toArray)) w) : wpList Tryz.prog ops Q (o :: rest) a w := by
  refine wpList_plain hgd fun K hK => ?_
  unfold Oper.wp execOp
  simp only [ho, List.map_toArray, List.map_cons, List.map_nil, h0, h1, h2, h3, h4, Sem.run_bind, run_build_rl, Sem.run_pure, Result.andThen_ok]
  exact hK _ _ h
theorem rulesOf_long (S : ByteArray) (w : World) (hl : S.size ≤ maxLen) (h : 4000 < S.size) : Calls Tryz.prog 20 #[.string S] w (RsRet w (readT (numsT S))) := by
  have he : readT (numsT S) = ([], (3, -1)) := by unfold readT; rw [if_pos (by rw [numsT_len]; exact h)]
  unfold maxLen at hl
  have HE := Lib.hid he
  have e1 : decide ((S.size : Int) > 4000) = true := by simp; omega
  have HZ := Lib.hid (heap_alloc2_old w (.cells #[.int .i64 0, .int .i64 0] 27) (.cells #[.int .i64 3, .int .i64 (-1)] 27))
  clear he
  go_enter Tryz.func20, Tryz.ntmps20
  go_wp2_with (first | (go_at_call 32; refine (At_c _ _ _).mono ?_; rintro e w' ⟨rfl, rfl⟩) | refine wpList_store_row rfl 27 _ _ rfl w.heap.size #[.int .i64 3, .int .i64 (-1)] rfl rfl 27 _ HZ.out sizeF rfl (by kernel_rfl) ?_)
  refine bodyPost_ret (results_tc Tryz.results20 _ _ w.heap.size 27 #[.int .i64 3, .int .i64 (-1)] (0, 0) _ rfl (setRow_heap _ _ _ _ _ _ HZ.out) Tryz.underlying27 rfl sizeF) rfl (rsret_nil HE.out ((((Ext.refl w).alloc _).alloc _).setRow (Nat.le_refl _) _))
/-- What holds behind the lines' division. -/
structure RoAt (w wl : World) (S : ByteArray) (P : List ByteArray) (A : Option Addr) : Prop where
  g : wl.heap[w.heap.size]? = some (.cells #[.int .i64 0, .int .i64 0] 27 (0, 0))
  nums : P.map numsT = splitP 10 (numsT S)
  sl : SlC wl A (P.map Value.string)
  x : Ext w wl
theorem ro_err {w W : World} {R : List Rule × (Int × Int)} {i : Nat} (h : R = ([], (1, (i : Int)))) (hx : Ext w W) : RsRet w R (.returned (.tuple #[.slice none 0 0, .agg #[.int .i64 1, .int .i64 (i : Int)]])) W := rsret_nil h hx
theorem rulesOf_short (S : ByteArray) (w : World) (hl : S.size ≤ 4000) : Calls Tryz.prog 20 #[.string S] w (RsRet w (readT (numsT S))) := by
  have HLS := Lib.hid hl
  obtain ⟨R, hR⟩ : ∃ R, R = readT (numsT S) := ⟨_, rfl⟩
  have HR := Lib.hid hR
  rw [← hR]
  have HSP := Lib.hid (fun (W : World) => Split_c S 10 W (by omega) (by decide))
  have e1 : decide ((S.size : Int) > 4000) = false := by simp; omega
  clear hR
  go_enter Tryz.func20, Tryz.ntmps20
  go_upto_region 3 with (fail)
  go_cut [3, 4] (fun s3 s4 wx => ∃ (P : List ByteArray) (A : Option Addr) (k : Nat), s3 = .pointer (some ⟨w.heap.size, 0, none⟩) ∧ s4 = .slice A P.length k ∧ RoAt w wx S P A ∧ P.length ≤ S.size + 1)
  case first =>
    go_wp2_with (go_at_call 42; refine (HSP.out _).mono ?_; rintro e w1 ⟨P, A, k, rfl, hn, hsl, hpl, hx⟩)
    go_meet
    exact ⟨P, A, k, rfl, rfl, ⟨ext_heap hx (heap_alloc_new w _), hn, hsl, ((Ext.refl w).alloc _).trans hx⟩, hpl⟩
  obtain ⟨P, A, kk, rfl, rfl, hat, hpl⟩ := hcut
  obtain ⟨wl, rfl⟩ : ∃ wl : World, wl = wc := ⟨_, rfl⟩
  have HAT := Lib.hid hat
  have hwl : w.heap.size < wl.heap.size := (Array.getElem?_eq_some_iff.1 hat.g).1
  obtain ⟨n, hn⟩ : ∃ n, n = P.length := ⟨_, rfl⟩
  have HN := Lib.hid hn
  have hn0 : 1 ≤ n := by
    have h1 := congrArg List.length hat.nums
    rw [List.length_map, ← hn] at h1
    rcases Nat.eq_zero_or_pos n with q | q
    · rw [q] at h1
      exact absurd (List.eq_nil_of_length_eq_zero h1.symm) (Tape.splitP_ne _ _)
    · exact q
  rw [← hn] at hpl ⊢
  clear hat hn HSP e1
  go_wp2
  go_loopw [5, 6] (fun t5 t6 wx => ∃ i : Nat, ∃ out, t6 = .int .i64 (i : Int) ∧ i < n ∧ RoIs wl wx S i out t5) (fun _ t6 _ => n - (intOf t6).toNat)
  case atStart => exact ⟨0, [], rfl, hn0, ⟨⟨rfl, .inl ⟨rfl, rfl⟩⟩, rfl, fun r hr => by simp at hr, by rw [List.drop_zero]; exact (ahead_nil _).symm, Ext.refl wl⟩⟩
  case round =>
    obtain ⟨i, out, rfl, hin, hro⟩ := hrel
    have HRO := Lib.hid hro
    have hol : out.length ≤ 4000 := by have := hro.len; omega
    have hww : wl.heap.size ≤ wr.heap.size := hro.x.size
    obtain ⟨p, hp⟩ : ∃ p, P[i]? = some p := ⟨_, List.getElem?_eq_getElem (by rw [← HN.out]; exact hin)⟩
    have HP := Lib.hid hp
    have hps : p.size ≤ 4000 := by
      have h1 := splitP_le 10 (numsT S) (numsT p) (by rw [← HAT.out.nums]; exact List.mem_map.2 ⟨p, List.mem_of_getElem? hp, rfl⟩)
      rw [numsT_len, numsT_len] at h1
      omega
    obtain ⟨b, o, rfl, hc⟩ := str_at (SlC.ext HAT.out.sl HRO.out.x) hp
    have HC := Lib.hid hc
    have HDR := Lib.hid (ro_drop HAT.out.nums hp)
    clear hro hp hc
    have wn : IntKind.i64.wrap ((n : Int) - 1) = (n : Int) - 1 := IntWalk.i64_in _ (by omega)
    have HSQ := Lib.hid (fun (W : World) => Split_c p 32 W (by omega) (by decide))
    go_upto_region 8 with (fail)
    go_cut [41] (fun s41 wx => ∃ bb : Bool, s41 = .bool bb ∧ Hid (bb = (decide (i + 1 = n) && decide (p.size = 0))) ∧ wr = wx)
    case first =>
      by_cases hl1 : i + 1 = n
      · have e1 : ((i : Int) == (n : Int) - 1) = true := by simp; omega
        have hc := HC.out
        by_cases hz : p.size = 0
        · have HE : Hid (true = (decide (i + 1 = n) && decide (p.size = 0))) := Lib.hid (by rw [decide_eq_true hl1, decide_eq_true hz]; rfl)
          have e2 : p.toList.isEmpty = true := by rw [empty_str hz, ByteArray.toList_eq]; rfl
          clear hl1 hz
          go_wp2
          go_meet
          exact ⟨true, by first | rfl | simp [e2], HE, rfl⟩
        · have HE : Hid (false = (decide (i + 1 = n) && decide (p.size = 0))) := Lib.hid (by rw [decide_eq_false hz, Bool.and_false])
          have e2 : p.toList.isEmpty = false := by
            rw [ByteArray.toList_eq, List.isEmpty_eq_false_iff]
            intro q
            have := congrArg List.length q
            rw [Array.length_toList] at this
            exact hz this
          clear hl1 hz
          go_wp2
          go_meet
          exact ⟨false, by first | rfl | simp [e2], HE, rfl⟩
      · have HE : Hid (false = (decide (i + 1 = n) && decide (p.size = 0))) := Lib.hid (by rw [decide_eq_false hl1, Bool.false_and])
        have e1 : ((i : Int) == (n : Int) - 1) = false := by simp; omega
        clear hl1
        go_wp2
        go_meet
        exact ⟨false, rfl, HE, rfl⟩
    obtain ⟨bb, rfl, hbb, rfl⟩ := hcut
    cases bb with
    | true =>
      have hh : i + 1 = n ∧ p.size = 0 := by have := hbb.out; simpa using this.symm
      have HRE := Lib.hid (ro_end HLS.out HRO.out (by
        rw [HDR.out, ro_last HAT.out.nums (by rw [← HN.out]; exact hh.1)]
        have : numsT p = [] := List.eq_nil_of_length_eq_zero (by rw [numsT_len]; exact hh.2)
        rw [this]
        rfl))
      obtain ⟨A5, c5, hv5, v1, v2, v3, v4⟩ := own_sl5 HRO.out.own
      subst hv5
      have hrf := RulesFault_c A5 (out.map clipR) c5 wr (by rw [List.length_map]; exact Nat.le_trans v1 v2) v4 HRO.out.wf
      rw [List.length_map] at hrf
      obtain ⟨fc, fi, hfe⟩ : ∃ fc fi, faultR (out.map clipR) = (fc, fi) := ⟨_, _, rfl⟩
      rw [hfe] at hrf
      have HRF := Lib.hid hrf
      have HF := Lib.hid hfe
      obtain ⟨M, hM⟩ : ∃ M, M = out.map clipR := ⟨_, rfl⟩
      have HML : Hid (M.length = out.length) := Lib.hid (by rw [hM, List.length_map])
      have HOWN := Lib.hid HRO.out.own
      rw [← hM] at HF HRE HOWN
      obtain ⟨nn, hnn⟩ : ∃ nn, nn = out.length := ⟨_, rfl⟩
      rw [← hnn] at HRF HOWN HML hol ⊢
      clear hh v1 v2 v3 v4 hrf hfe hM hbb hnn
      go_upto_region 29 with (fail)
      go_cut [17] (fun s17 wx => ∃ g17, s17 = .pointer (some ⟨g17, 0, none⟩) ∧ wx.heap[g17]? = some (.cells #[.int .i64 fc, .int .i64 fi] 27 (0, 0)) ∧ Ext wr wx)
      case first =>
        go_wp2_with fail
        refine HRF.out.mono ?_
        rintro e w1 ⟨rfl, hx1⟩
        have HX1 := Lib.hid hx1
        have HZ := Lib.hid (heap_alloc_new w1 (.cells #[.int .i64 0, .int .i64 0] 27))
        clear hx1
        simp only [fAgg]
        go_wp2_with (refine wpList_store_row rfl 27 _ _ rfl w1.heap.size #[.int .i64 fc, .int .i64 fi] rfl rfl 27 _ HZ.out sizeF rfl (by kernel_rfl) ?_)
        go_meet
        exact ⟨_, rfl, setRow_heap _ _ _ _ _ _ HZ.out, HX1.out.trans (((Ext.refl w1).alloc _).setRow (Nat.le_refl _) _)⟩
      obtain ⟨g17, rfl, hb17, hx17⟩ := hcut
      obtain ⟨wa, rfl⟩ : ∃ wa : World, wa = wc := ⟨_, rfl⟩
      have HB17 := Lib.hid hb17
      have HGA := Lib.hid (ext_heap (HRO.out.x.trans hx17) HAT.out.g)
      have HXA := Lib.hid (HAT.out.x.trans (HRO.out.x.trans hx17))
      have HOA := Lib.hid (town_ext HOWN.out hx17)
      have k0 : wa.cell? ⟨g17, 0, none⟩ = some (.int .i64 fc) := blk_cell hb17 0
      clear hb17 hx17
      by_cases hz : fc = 0
      · have hz2 : fi = 0 := by
          have h1 := HF.out
          by_cases q : faultR M = (0, 0)
          · rw [q] at h1; cases h1; rfl
          · exact absurd (by rw [h1]; exact hz) (faultR_code q)
        subst hz hz2
        have HRE2 : Hid (R = (M, (0, 0))) := Lib.hid (by rw [HR.out, HRE.out, if_pos HF.out])
        obtain ⟨c0, c1, x0, x1⟩ := Blk2.mk' HB17.out
        obtain ⟨d0, d1, y0, y1⟩ := Blk2.mk' HGA.out
        go_wp2
        go_region
        all_goals go_wp2
        all_goals refine bodyPost_ret (results_tc Tryz.results20 _ _ w.heap.size 27 #[.int .i64 0, .int .i64 0] (0, 0) _ rfl (fblk_set HGA.out) Tryz.underlying27 rfl sizeF) rfl (rsret_mk HRE2.out (by rw [HML.out]; exact town_base (town_ext (own_setLow (own_setLow HOA.out hwl _) hwl _) (Ext.refl _).drew) hwl) ((ext_set2 HXA.out (Nat.le_refl _) _ _).drew))
      · have q1 : (fc != 0) = true := by simpa using hz
        have HRE2 : Hid (R = ([], (fc, fi))) := Lib.hid (by
          rw [HR.out, HRE.out, if_neg, HF.out]
          rw [HF.out]
          intro q
          cases q
          exact hz rfl)
        clear hz
        obtain ⟨c0, c1, x0, x1⟩ := Blk2.mk' HB17.out
        obtain ⟨d0, d1, y0, y1⟩ := Blk2.mk' HGA.out
        go_wp2
        go_region
        all_goals go_wp2
        all_goals refine bodyPost_ret (results_tc Tryz.results20 _ _ w.heap.size 27 #[.int .i64 fc, .int .i64 fi] (0, 0) _ rfl (fblk_set HGA.out) Tryz.underlying27 rfl sizeF) rfl (rsret_nil HRE2.out ((ext_set2 HXA.out (Nat.le_refl _) _ _).drew))
    | false =>
      have HNB : Hid (¬ (i + 1 = n ∧ p.size = 0)) := Lib.hid (by have := hbb.out; intro q; rw [decide_eq_true q.1, decide_eq_true q.2] at this; cases this)
      clear hbb
      go_upto_region 9 with (fail)
      go_cut [7] (fun s7 wx => ∃ (Q : List ByteArray) (A2 : Option Addr) (k2 : Nat), s7 = .slice A2 Q.length k2 ∧ Q.map numsT = splitP 32 (numsT p) ∧ SlC wx A2 (Q.map Value.string) ∧ Q.length ≤ p.size + 1 ∧ Ext wr wx)
      case first =>
        have hc := HC.out
        go_wp2_with (go_at_call 42; refine (HSQ.out _).mono ?_; rintro e w1 ⟨Q, A2, k2, rfl, hq1, hq2, hq3, hq4⟩)
        go_meet
        exact ⟨Q, A2, k2, rfl, hq1, hq2, hq3, hq4⟩
      obtain ⟨Q, A2, k2, rfl, hq1, hq2, hq3, hxq⟩ := hcut
      obtain ⟨wq, rfl⟩ : ∃ wq : World, wq = wc := ⟨_, rfl⟩
      have HQ1 := Lib.hid hq1
      have HQ2 := Lib.hid hq2
      have HXQ := Lib.hid hxq
      have HGW := Lib.hid (ext_heap (HRO.out.x.trans hxq) HAT.out.g)
      have HXW := Lib.hid (HAT.out.x.trans (HRO.out.x.trans hxq))
      obtain ⟨ql, hql⟩ : ∃ ql, ql = Q.length := ⟨_, rfl⟩
      have HQL := Lib.hid hql
      rw [← hql] at hq3 ⊢
      clear hq1 hq2 hxq hql HSQ
      go_upto_region 10 with (fail)
      go_cut [56] (fun s56 wx => ∃ bb : Bool, s56 = .bool bb ∧ Hid (bb = (decide (ql ≠ 5) || decide (i + 1 = n))) ∧ wq = wx)
      case first =>
        by_cases h5 : ql = 5
        · have e2 : ((ql : Int) != 5) = false := by simp; omega
          by_cases hl1 : i + 1 = n
          · have e1 : ((i : Int) == (n : Int) - 1) = true := by simp; omega
            have HE : Hid (true = (decide (ql ≠ 5) || decide (i + 1 = n))) := Lib.hid (by rw [decide_eq_true hl1, Bool.or_true])
            clear hl1 h5
            go_wp2
            go_meet
            exact ⟨true, rfl, HE, rfl⟩
          · have e1 : ((i : Int) == (n : Int) - 1) = false := by simp; omega
            have HE : Hid (false = (decide (ql ≠ 5) || decide (i + 1 = n))) := Lib.hid (by rw [decide_eq_false hl1, decide_eq_false (by omega)]; rfl)
            clear hl1 h5
            go_wp2
            go_meet
            exact ⟨false, rfl, HE, rfl⟩
        · have e2 : ((ql : Int) != 5) = true := by simp; omega
          have HE : Hid (true = (decide (ql ≠ 5) || decide (i + 1 = n))) := Lib.hid (by rw [decide_eq_true h5, Bool.true_or])
          clear h5
          go_wp2
          go_meet
          exact ⟨true, rfl, HE, rfl⟩
      obtain ⟨bb, rfl, hbb, rfl⟩ := hcut
      cases bb with
      | true =>
        have HRE : Hid (R = ([], ((1 : Int), (i : Int)))) := Lib.hid (by
          rw [HR.out]
          refine ro_bad HLS.out HRO.out ?_
          rw [HDR.out]
          by_cases hl1 : i + 1 = n
          · rw [ro_last HAT.out.nums (by rw [← HN.out]; exact hl1), Tape.rdL, if_neg]
            intro q
            exact HNB.out ⟨hl1, by rw [← numsT_len, q]; rfl⟩
          · have h5 : ql ≠ 5 := by
              have h1 := hbb.out
              rw [decide_eq_false hl1, Bool.or_false] at h1
              simpa using h1.symm
            refine rd_bad (ro_more HAT.out.nums (by rw [← HN.out]; omega)) (rule_len ?_)
            rw [← HQ1.out, List.length_map, ← HQL.out]
            exact h5)
        clear hbb
        have HZB := Lib.hid (ext_heap ((Ext.refl wq).alloc (.cells #[.int .i64 1, .int .i64 (i : Int)] 27)) HGW.out)
        have HXR := Lib.hid ((HXW.out).trans ((((Ext.refl wq).alloc (.cells #[.int .i64 1, .int .i64 (i : Int)] 27)))))
        go_wp2_with (first | (go_at_call 32; refine (At_c _ _ _).mono ?_; rintro e w' ⟨rfl, rfl⟩) | refine wpList_store_row rfl 27 _ _ rfl w.heap.size #[.int .i64 1, .int .i64 (i : Int)] rfl rfl 27 _ HZB.out sizeF rfl (by kernel_rfl) ?_)
        refine bodyPost_ret (results_tc Tryz.results20 _ _ w.heap.size 27 #[.int .i64 1, .int .i64 (i : Int)] (0, 0) _ rfl (setRow_heap _ _ _ _ _ _ HZB.out) Tryz.underlying27 rfl sizeF) rfl (ro_err HRE.out (HXR.out.setRow (Nat.le_refl _) _))
      | false =>
        have hh : ql = 5 ∧ i + 1 < n := by
          have h1 := hbb.out
          have h2 : ql = 5 ∧ ¬ i + 1 = n := by simpa using h1.symm
          exact ⟨h2.1, by omega⟩
        obtain ⟨rfl, hin1⟩ := hh
        obtain ⟨q0, q1, q2, q3, q4, rfl⟩ : ∃ q0 q1 q2 q3 q4, Q = [q0, q1, q2, q3, q4] := by
          have h := HQL.out
          match Q, h with
          | [a, b, c, d, e], _ => exact ⟨a, b, c, d, e, rfl⟩
        obtain ⟨b2, o2, rfl, c0⟩ := str_at (i := 0) HQ2.out rfl
        rw [Nat.add_zero] at c0
        have c1 := str_cells (i := 1) HQ2.out rfl
        have c2 := str_cells (i := 2) HQ2.out rfl
        have c3 := str_cells (i := 3) HQ2.out rfl
        have c4 := str_cells (i := 4) HQ2.out rfl
        have hqs : ∀ q ∈ [q0, q1, q2, q3, q4], q.size ≤ 5000 := fun q hq => by
          have h1 := splitP_le 32 (numsT p) (numsT q) (by rw [← HQ1.out]; exact List.mem_map.2 ⟨q, hq, rfl⟩)
          rw [numsT_len, numsT_len] at h1
          omega
        obtain ⟨a0, k0, HC0, HF0⟩ := count_two q0 (hqs _ (by simp))
        obtain ⟨a1, k1, HC1, HF1⟩ := count_two q1 (hqs _ (by simp))
        obtain ⟨a2, k2', HC2, HF2⟩ := count_two q2 (hqs _ (by simp))
        obtain ⟨a4, k4, HC4, HF4⟩ := count_two q4 (hqs _ (by simp))
        have HRR : Hid (rdRule (numsT p) = rdFive (numsT q0) (numsT q1) (numsT q2) (numsT q3) (numsT q4)) := Lib.hid (by
          unfold rdRule
          rw [← HQ1.out]
          rfl)
        have HB0 := Lib.hid hbb.out
        clear hbb hqs HQL HB0
        go_upto_region 13 with (go_at_call 43; refine (HC0.out _).mono ?_; rintro e w' ⟨rfl, rfl⟩)
        go_upto_region 14 with (go_at_call 43; refine (HC1.out _).mono ?_; rintro e w' ⟨rfl, rfl⟩)
        go_upto_region 15 with (go_at_call 43; refine (HC2.out _).mono ?_; rintro e w' ⟨rfl, rfl⟩)
        go_upto_region 16 with (go_at_call 43; refine (HC4.out _).mono ?_; rintro e w' ⟨rfl, rfl⟩)
        obtain ⟨b72, hb72⟩ : ∃ b72, (q4.toList == [72]) = b72 := ⟨_, rfl⟩
        go_upto_if 90 with (fail)
        go_cut [14, 15] (fun s14 s15 wx => ∃ (d : Int) (ok : Bool), s14 = .int .i64 d ∧ s15 = .bool ok ∧ Hid (NxIs (numsT q4) d ok) ∧ wq = wx)
        case first =>
          by_cases h72 : numsT q4 = [72]
          · have e3 : b72 = true := by rw [← hb72, str_eqb]; exact decide_eq_true h72
            subst e3
            have HNX := Lib.hid (nxS_halt h72)
            clear h72
            go_wp2
            go_meet
            exact ⟨_, _, rfl, rfl, HNX, rfl⟩
          · have e3 : b72 = false := by rw [← hb72, str_eqb]; exact decide_eq_false h72
            subst e3
            have HNX := Lib.hid (nxS_num HF4.out h72)
            clear h72
            go_wp2
            go_meet
            exact ⟨_, _, rfl, rfl, HNX, rfl⟩
        obtain ⟨d, k4', rfl, rfl, hnx, rfl⟩ := hcut
        have HNX := Lib.hid hnx.out
        clear hnx
        clear hb72
        obtain ⟨b76, hb76⟩ : ∃ b76, (q3.toList == [76]) = b76 := ⟨_, rfl⟩
        go_upto_if 94 with (fail)
        go_cut [16] (fun s16 wx => ∃ (m : Int), s16 = .int .i64 m ∧ Hid (MvIs (numsT q3) m) ∧ wq = wx)
        case first =>
          by_cases h76 : numsT q3 = [76]
          · have e3 : b76 = true := by rw [← hb76, str_eqb]; exact decide_eq_true h76
            subst e3
            have HMV : Hid (MvIs (numsT q3) (-1)) := Lib.hid (.inr (by rw [h76]; decide))
            clear h76
            go_wp2
            go_meet
            exact ⟨_, rfl, HMV, rfl⟩
          have e76 : b76 = false := by rw [← hb76, str_eqb]; exact decide_eq_false h76
          subst e76
          by_cases h83 : numsT q3 = [83]
          · have e3 : (q3.toList == [83]) = true := by rw [str_eqb]; exact decide_eq_true h83
            have HMV : Hid (MvIs (numsT q3) 0) := Lib.hid (.inr (by rw [h83]; decide))
            clear h76 h83
            go_wp2
            go_meet
            exact ⟨_, rfl, HMV, rfl⟩
          have e83 : (q3.toList == [83]) = false := by rw [str_eqb]; exact decide_eq_false h83
          by_cases h82 : numsT q3 = [82]
          · have e3 : (q3.toList == [82]) = true := by rw [str_eqb]; exact decide_eq_true h82
            have HMV : Hid (MvIs (numsT q3) 1) := Lib.hid (.inr (by rw [h82]; decide))
            clear h76 h83 h82
            go_wp2
            go_meet
            exact ⟨_, rfl, HMV, rfl⟩
          · have e82 : (q3.toList == [82]) = false := by rw [str_eqb]; exact decide_eq_false h82
            have HMV : Hid (MvIs (numsT q3) 9) := Lib.hid (.inl ⟨rfl, by unfold mvOf; rw [if_neg h76, if_neg h83, if_neg h82]⟩)
            clear h76 h83 h82
            go_wp2
            go_meet
            exact ⟨_, rfl, HMV, rfl⟩
        obtain ⟨mv, rfl, hmv, rfl⟩ := hcut
        have HMV := Lib.hid hmv.out
        clear hmv c0 c1 c2 c3 c4 hb76
        go_upto_region 26 with (fail)
        go_cut [120] (fun s120 wx => ∃ bb : Bool, s120 = .bool bb ∧ Hid (bb = (!k0 || !k1 || !k2' || !k4' || decide (mv = 9))) ∧ wq = wx)
        case first =>
          clear HF0 HF1 HF2 HF4 HNX
          cases k0 with
          | false => go_wp2; go_meet; exact ⟨true, rfl, Lib.hid (by simp), rfl⟩
          | true =>
          cases k1 with
          | false => go_wp2; go_meet; exact ⟨true, rfl, Lib.hid (by simp), rfl⟩
          | true =>
          cases k2' with
          | false => go_wp2; go_meet; exact ⟨true, rfl, Lib.hid (by simp), rfl⟩
          | true =>
          cases k4' with
          | false => go_wp2; go_meet; exact ⟨true, rfl, Lib.hid (by simp), rfl⟩
          | true =>
          by_cases h9 : mv = 9
          · have e9 : (mv == 9) = true := by simpa using h9
            have HE : Hid (true = (!true || !true || !true || !true || decide (mv = 9))) := Lib.hid (by rw [decide_eq_true h9]; rfl)
            clear h9
            go_wp2
            go_meet
            exact ⟨true, by first | rfl | simp [e9], HE, rfl⟩
          · have e9 : (mv == 9) = false := by simpa using h9
            have HE : Hid (false = (!true || !true || !true || !true || decide (mv = 9))) := Lib.hid (by rw [decide_eq_false h9]; rfl)
            clear h9
            go_wp2
            go_meet
            exact ⟨false, by first | rfl | simp [e9], HE, rfl⟩
        obtain ⟨bb, rfl, hbb, rfl⟩ := hcut
        cases bb with
        | true =>
          have HRE : Hid (R = ([], ((1 : Int), (i : Int)))) := Lib.hid (by
            rw [HR.out]
            refine ro_bad HLS.out HRO.out ?_
            rw [HDR.out]
            refine rd_bad (ro_more HAT.out.nums (by rw [← HN.out]; exact hin1)) ?_
            rw [HRR.out]
            refine five_noS HF0.out HF1.out HF2.out HMV.out HNX.out ?_
            exact bad_five hbb.out)
          clear hbb
          have HZB := Lib.hid (ext_heap ((Ext.refl wq).alloc (.cells #[.int .i64 1, .int .i64 (i : Int)] 27)) HGW.out)
          have HXR := Lib.hid ((HXW.out).trans ((((Ext.refl wq).alloc (.cells #[.int .i64 1, .int .i64 (i : Int)] 27)))))
          go_wp2_with (first | (go_at_call 32; refine (At_c _ _ _).mono ?_; rintro e w' ⟨rfl, rfl⟩) | refine wpList_store_row rfl 27 _ _ rfl w.heap.size #[.int .i64 1, .int .i64 (i : Int)] rfl rfl 27 _ HZB.out sizeF rfl (by kernel_rfl) ?_)
          refine bodyPost_ret (results_tc Tryz.results20 _ _ w.heap.size 27 #[.int .i64 1, .int .i64 (i : Int)] (0, 0) _ rfl (setRow_heap _ _ _ _ _ _ HZB.out) Tryz.underlying27 rfl sizeF) rfl (ro_err HRE.out (HXR.out.setRow (Nat.le_refl _) _))
        | false =>
          have hh : k0 = true ∧ k1 = true ∧ k2' = true ∧ k4' = true ∧ mv ≠ 9 := ok_five hbb.out
          obtain ⟨rfl, rfl, rfl, rfl, hm9⟩ := hh
          obtain ⟨r, hr, hcr⟩ := five_get (a := a0) (b := a1) (c := a2) HF0.out HF1.out HF2.out HMV.out hm9 HNX.out
          have HRD : Hid (rdRule (numsT p) = some r) := Lib.hid (by rw [HRR.out]; exact hr)
          have HCR : Hid (clipR r = ⟨a0, a1, a2, mv, d⟩) := Lib.hid hcr
          obtain ⟨cr, hcrd⟩ : ∃ cr, cr = (⟨a0, a1, a2, mv, d⟩ : Rule) := ⟨_, rfl⟩
          have f0 : cr.st = (a0 : Int) := by rw [hcrd]
          have f1 : cr.sy = (a1 : Int) := by rw [hcrd]
          have f2 : cr.wr = (a2 : Int) := by rw [hcrd]
          have f3 : cr.mv = mv := by rw [hcrd]
          have f4 : cr.nx = d := by rw [hcrd]
          rw [← hcrd] at HCR
          have HG0 := Lib.hid f0
          have HG1 := Lib.hid f1
          have HG2 := Lib.hid f2
          have HG3 := Lib.hid f3
          have HG4 := Lib.hid f4
          obtain ⟨ir, hi, hz0, hz1, hz2⟩ := info_parts infoR
          have HI := Lib.hid hi
          have HZ0 := Lib.hid hz0
          have HZ1 := Lib.hid hz1
          have HZ2 := Lib.hid hz2
          have HRA : Hid (RoIs wl (wq.alloc (.cells (ruleV cr).toArray 54)) S i out u5) := Lib.hid ⟨town_ext HRO.out.own (HXQ.out.alloc _), HRO.out.len, HRO.out.wf, HRO.out.res, HRO.out.x.trans (HXQ.out.alloc _)⟩
          obtain ⟨M, hM⟩ : ∃ M, M = out.map clipR := ⟨_, rfl⟩
          have HM := Lib.hid hM
          have HOW := Lib.hid HRA.out.own
          rw [← hM] at HOW
          have hwq : wl.heap.size ≤ wq.heap.size := Nat.le_trans hww HXQ.out.size
          clear hi hz0 hz1 hz2 hr hcr hcrd f0 f1 f2 f3 f4 hM hbb hm9
          go_wp2_with (first | refine wpList_build_rl rfl _ _ _ _ _ rfl cr (by rw [HG0.out]; rfl) (by rw [HG1.out]; rfl) (by rw [HG2.out]; rfl) (by rw [HG3.out]; rfl) (by rw [HG4.out]; rfl) ?_ | refine wpList_buildSlice_rule rfl _ rfl cr rfl ?_ | (at_builtin; refine wpList_append_sl rfl _ _ 22 rfl wl.heap.size 54 ir _ 5 40 Tryz.underlying22 HI.out HZ0.out HZ1.out HZ2.out rfl (by decide) u5 out.length (rulesV M) rfl HOW.out (some ⟨wq.heap.size, 0, none⟩) 1 1 (ruleV cr) rfl (slc_at rfl (ruleV cr)) rfl (rule_one cr) (by unfold maxLen; omega) (by omega) (by simp; omega) ?_; intro v5 w5 ho5 hg5 _h5; have HN5 := Lib.hid (ro_next HRA.out HAT.out.nums HP.out (by rw [← HN.out]; exact hin1) HRD.out (by rw [HCR.out, ← HM.out]; exact ho5) hg5); clear ho5 hg5 _h5))
          go_roundw
          case rel => exact ⟨i + 1, _, by go_num, hin1, HN5.out⟩
          case measure => simp [intOf]; omega
theorem RulesOf_c (S : ByteArray) (w : World) (hl : S.size ≤ maxLen) : Calls Tryz.prog 20 #[.string S] w (RsRet w (readT (numsT S))) := by
  by_cases h : 4000 < S.size
  · exact rulesOf_long S w hl h
  · exact rulesOf_short S w (by omega)
end Go.Proofs.YtbaahbpianingaaGreatDoor
