import Derived.Test.YtbhcaniopdgjkaaMg29
import Derived.Lib.AppendZerosOnto
import Derived.Lib.SliceRun
import Derived.Test.YtbhcaniopdgjkaaMg33
import Derived.Test.YtbhcaniopdgjkaaMg30
import Derived.Test.YtbhcaniopdgjkaaMg35
import Derived.Test.YtbhcaniopdgjkaaMg26
namespace Go.Proofs.Ytbhcaniopdgjkaa
open Go Go.Proofs Go.RowKit
open Plain (SiteD)
set_option maxHeartbeats 1000000
set_option maxRecDepth 100000
/-- An empty row of the call's own, with room. -/
def RowRet (w : World) (l : List Int) (e : Ending) (w' : World) : Prop := ∃ v, e = .returned v ∧ w'.ownsRow w.heap.size 3 1 v l.length (l.map (Value.int .i64)) ∧ Ext w w'
theorem zeroCells_size (n : Nat) : (Builtin.zeroCells (Value.int .i64 0).cells n).size = n := by simp [Builtin.zeroCells, Value.cells]
theorem wpList_append_run {P : Program} {w w' : World} {ops : Array Oper} {rest : List Oper} {o : Oper} {a : Act} {Q : Exit → Act → World → Prop} (hgd : o.guard = none) (s x : Operand) (t tn : TypeId)
    (ho : o.op = .call { callee := .builtin .append, args := #[s, x], argTypes := #[t, tn] }) (v1 v2 v' : Value) (hs : a.eval s = v1) (hx : a.eval x = v2) (hrun : (Builtin.append_ #[t, tn] o.type #[v1, v2]).run P w = .ok v' w')
    (h : wpList P ops Q rest (a.put o.dst v') w') : wpList P ops Q (o :: rest) a w := by
  refine wpList_plain hgd fun K hK => ?_
  unfold Oper.wp execOp
  simp only [ho, resolve, invoke, builtin, Sem.run_bind, Sem.run_pure, Result.andThen_ok, List.map_toArray, List.map_cons, List.map_nil, hs, hx, hrun]
  exact hK _ _ h
theorem Grow_c (n : Nat) (w : World) (hn : n ≤ 1000) : Calls Try.prog 94 #[.slice none 0 0, .int .i64 (n : Int)] w (RowRet w []) := by
  obtain ⟨i0, hi, hz0, hz1, hz2⟩ := info_parts info3
  by_cases h0 : n = 0
  · subst h0
    go_enter Try.func94, Try.ntmps94
    go_wp2
    go_ret
    exact ⟨_, rfl, World.ownsRow_nil _ _ _ _, Ext.refl _⟩
  · have hap : ∀ ty, (Builtin.append_ #[23, 3] ty #[.slice none 0 0, .int .i64 (n : Int)]).run Try.prog w = .ok (.slice (some ⟨w.heap.size, 0, none⟩) n (grownCap w n 0 3)) (w.drew.alloc (.cells (Builtin.zeroCells (Value.int .i64 0).cells n ++ Builtin.zeroCells (Value.int .i64 0).cells (grownCap w n 0 3 - n)) 3)) := by
      intro ty
      have := Lib.run_append_grow_zeros (P := Try.prog) w 23 3 ty 3 i0 (.int .i64 0) .i64 .i64 Try.underlying23 Try.underlying3 hi hz0 none 0 0 [] (run_firstCells_none w.drew i0.size 0 0 0) n (by omega) (by omega) (by omega) (by omega) (by rw [hz2]; omega) (by rw [hz2]; unfold Builtin.nextslicecap; simp; split <;> omega)
      simpa using this
    have hge := grownCap_ge w n 0 3
    have hle := grownCap_le_maxLen w n 0 3 (by unfold maxLen; omega)
    have hs0 : ∀ (w' : World) (A : Option Addr) (n c : Nat), (Instr.slice 23 (.slice A n c) none (some (.int .i64 0)) none).run Try.prog w' = .ok (.slice A 0 c) w' := fun w' A n c => run_slice_to (P := Try.prog) w' 23 3 i0 Try.underlying23 hi A n c 0 .i64 (by omega)
    have hb := new_blk w.drew (.cells (Builtin.zeroCells (Value.int .i64 0).cells n ++ Builtin.zeroCells (Value.int .i64 0).cells (grownCap w n 0 3 - n)) 3)
    have HO : Hid ((w.drew.alloc (.cells (Builtin.zeroCells (Value.int .i64 0).cells n ++ Builtin.zeroCells (Value.int .i64 0).cells (grownCap w n 0 3 - n)) 3)).ownsRow w.heap.size 3 1 (.slice (some ⟨w.heap.size, 0, none⟩) 0 (grownCap w n 0 3)) 0 []) := by
      refine ⟨rfl, .inr ⟨w.heap.size, grownCap w n 0 3, _, rfl, Nat.le_refl _, hb, Nat.zero_le _, hle, ?_, rfl⟩⟩
      rw [Array.size_append, zeroCells_size, zeroCells_size]
      omega
    have HX := Lib.hid ((Ext.refl w).drew.alloc (.cells (Builtin.zeroCells (Value.int .i64 0).cells n ++ Builtin.zeroCells (Value.int .i64 0).cells (grownCap w n 0 3 - n)) 3))
    generalize w.drew.alloc (.cells (Builtin.zeroCells (Value.int .i64 0).cells n ++ Builtin.zeroCells (Value.int .i64 0).cells (grownCap w n 0 3 - n)) 3) = W at *
    generalize grownCap w n 0 3 = gc at *
    have hpos : ((n : Int) > 0) := by omega
    clear hb hi hz0 hz1 hz2
    have HAP := Lib.hid hap
    clear hap
    go_enter Try.func94, Try.ntmps94
    go_wp2_with (at_builtin; refine wpList_append_run rfl _ _ 23 3 rfl (.slice none 0 0) (.int .i64 (n : Int)) _ rfl rfl (HAP.out _) ?_)
    go_ret
    exact ⟨_, rfl, HO.out, HX.out⟩
theorem FillI.addS {w w1 w3 : World} {l m : List Int} {v v3 : Value} (h : FillI w w1 l v) (ho : w3.ownsRow w.heap.size 3 1 v3 (l.length + m.length) (l.map (Value.int .i64) ++ m.map (Value.int .i64))) (hg : w1.grownBy w3 v.ownBlock) : FillI w w3 (l ++ m) v3 :=
  ⟨by rw [List.length_append, List.map_append]; exact ho, grow_ext h.x h.own hg⟩
theorem Concat_c (R C : Option Addr) (a b : List Int) (c1 c2 : Nat) (g : Nat) (w : World) (ha : a.length ≤ 100) (hb : b.length ≤ 100) (h1 : Sl w .i64 R a) (h2 : Sl w .i64 C b) (hg : w.heap[g]? = some (.cells #[.slice R a.length c1, .slice C b.length c2] 23 (0, 0))) :
    Calls Try.prog 81 #[.slice (some ⟨g, 0, none⟩) 2 2] w (RowRet w (a ++ b)) := by
  have HG := Lib.hid (fun n w' hn => Grow_c n w' hn)
  have H1 := Lib.hid h1
  have H2 := Lib.hid h2
  have HGB := Lib.hid hg
  obtain ⟨i0, hi, hz0, hz1, hz2⟩ := info_parts info3
  have HI := Lib.hid hi
  have HZ0 := Lib.hid hz0
  have HZ1 := Lib.hid hz1
  have HZ2 := Lib.hid hz2
  have e0 : w.cell? ⟨g, 0, none⟩ = some (.slice R a.length c1) := blk_cell hg 0
  have e1 : w.cell? ⟨g, 1, none⟩ = some (.slice C b.length c2) := blk_cell hg 1
  obtain ⟨na, hna⟩ : ∃ na, na = a.length := ⟨_, rfl⟩
  obtain ⟨nb, hnb⟩ : ∃ nb, nb = b.length := ⟨_, rfl⟩
  have HNA := Lib.hid hna
  have HNB := Lib.hid hnb
  rw [← hna] at ha e0
  rw [← hnb] at hb e1
  clear hi hz0 hz1 hz2 hg h1 h2 hna hnb
  go_enter Try.func81, Try.ntmps81
  go_wp2
  go_loopw [3, 11] (fun v3 v11 wr => ∃ k : Nat, k ≤ 2 ∧ v11 = .int .i64 k ∧ v3 = .int .i64 ((if k = 0 then 0 else if k = 1 then na else na + nb : Nat) : Int) ∧ wr = w) (fun _ v11 _ => 2 - (intOf v11).toNat)
  case atStart => exact ⟨0, by omega, rfl, rfl, rfl⟩
  case round =>
    obtain ⟨k, hk, rfl, rfl, rfl⟩ := hrel
    rcases Nat.lt_or_ge k 1 with q | q
    · have hk0 : k = 0 := by omega
      subst hk0
      simp only [if_true]
      go_wp2
      exact ⟨⟨1, by omega, by go_num, by simp, trivial⟩, by simp [intOf]⟩
    · rcases Nat.lt_or_ge k 2 with q2 | q2
      · have hk1 : k = 1 := by omega
        subst hk1
        simp only [Nat.one_ne_zero, if_true, if_false]
        have hw : IntKind.i64.wrap ((na : Int) + (nb : Int)) = ((na + nb : Nat) : Int) := by rw [IntWalk.i64_in _ (by omega)]; omega
        go_wp2
        exact ⟨⟨2, by omega, by go_num, by simp, trivial⟩, by simp [intOf]⟩
      · have hk2 : k = 2 := by omega
        subst hk2
        simp only [show ¬ (2 : Nat) = 0 by omega, show ¬ (2 : Nat) = 1 by omega, if_false]
        have HGC := Lib.hid (HG.out (na + nb) wr (by omega))
        obtain ⟨W0, rfl⟩ : ∃ W0, W0 = wr := ⟨_, rfl⟩
        go_wp2_with (go_at_call 94; refine HGC.out.mono ?_; rintro e w5 ⟨v5, rfl, ho5, hx5⟩; have HF5 : Hid (FillI W0 w5 [] v5) := ⟨ho5, hx5⟩; clear ho5 hx5)
        go_loopw [6, 27] (fun v6 v27 wx => ∃ k : Nat, k ≤ 2 ∧ v27 = .int .i64 k ∧ FillI W0 wx (if k = 0 then [] else if k = 1 then a else a ++ b) v6) (fun _ v27 _ => 2 - (intOf v27).toNat)
        case atStart => exact ⟨0, by omega, rfl, HF5.out⟩
        case round =>
          clear HF5 HGC
          obtain ⟨k, hk, rfl, hf⟩ := hrel
          have f0 := hf.x.cell e0
          have f1 := hf.x.cell e1
          have HF := Lib.hid hf
          have hws := hf.x.size
          clear hf
          rcases Nat.lt_or_ge k 1 with q | q
          · have hk0 : k = 0 := by omega
            subst hk0
            simp only [if_true] at HF
            obtain ⟨VA, vc, rfl, _, _, _, _⟩ := own_sl HF.out.own
            go_wp2_with (at_builtin; refine wpList_append_sl rfl _ _ 23 rfl W0.heap.size 3 i0 (.int .i64 0) 1 8 Try.underlying23 HI.out HZ0.out HZ1.out HZ2.out rfl (by decide) _ 0 [] rfl HF.out.own R na c1 (a.map (Value.int .i64)) rfl (H1.out.ext HF.out.x) (by rw [List.length_map, HNA.out, Nat.mul_one]) ints_one (by unfold maxLen; omega) (by omega) hws ?_; intro v3 w3 ho3 hg3 _h3; have HN3 := Lib.hid (HF.out.addS (m := a) (by rw [← HNA.out]; exact ho3) hg3); obtain ⟨A3, c3', rfl, _, _, _, _⟩ := own_sl ho3; clear ho3 hg3 _h3)
            exact ⟨⟨1, by omega, by go_num, by simpa using HN3.out⟩, by simp [intOf]⟩
          · rcases Nat.lt_or_ge k 2 with q2 | q2
            · have hk1 : k = 1 := by omega
              subst hk1
              simp only [Nat.one_ne_zero, if_true, if_false] at HF
              obtain ⟨VA, vc, rfl, _, _, _, _⟩ := own_sl HF.out.own
              have hal : a.length ≤ 100 := by rw [← HNA.out]; exact ha
              go_wp2_with (at_builtin; refine wpList_append_sl rfl _ _ 23 rfl W0.heap.size 3 i0 (.int .i64 0) 1 8 Try.underlying23 HI.out HZ0.out HZ1.out HZ2.out rfl (by decide) _ a.length (a.map (Value.int .i64)) rfl HF.out.own C nb c2 (b.map (Value.int .i64)) rfl (H2.out.ext HF.out.x) (by rw [List.length_map, HNB.out, Nat.mul_one]) ints_one (by unfold maxLen; omega) (by omega) hws ?_; intro v3 w3 ho3 hg3 _h3; have HN3 := Lib.hid (HF.out.addS (m := b) (by rw [← HNB.out]; exact ho3) hg3); obtain ⟨A3, c3', rfl, _, _, _, _⟩ := own_sl ho3; clear ho3 hg3 _h3)
              exact ⟨⟨2, by omega, by go_num, by simpa using HN3.out⟩, by simp [intOf]⟩
            · have hk2 : k = 2 := by omega
              subst hk2
              simp only [show ¬ (2 : Nat) = 0 by omega, show ¬ (2 : Nat) = 1 by omega, if_false] at HF
              obtain ⟨VA, vc, rfl, _, _, _, _⟩ := own_sl HF.out.own
              go_wp2
              go_ret
              exact ⟨_, rfl, HF.out.own, HF.out.x⟩
end Go.Proofs.Ytbhcaniopdgjkaa
namespace Go.Proofs.Ytbhcaniopdgjkaa
open Go Go.Proofs Go.RowKit
open Plain (SiteD)
set_option maxHeartbeats 1000000
set_option maxRecDepth 100000
theorem restore1_c (x : Int) (B : Nat) (D : Option Addr) (m : List Int) (d : Nat) (w : World) (hm : m.length ≤ maxLen) (h2 : Sl w .i64 D m) (hc : w.cell? ⟨B, 0, none⟩ = some (.slice D m.length d)) :
    Calls Try.prog 78 #[.int .i64 x, .pointer (some ⟨B, 0, none⟩)] w fun e w' => e = .returned (.bool (hasB m x)) ∧ w = w' := by
  have HC := Lib.hid (Contains_c D m d x w hm h2)
  go_enter Try.func78, Try.ntmps78
  go_wp2_with (go_at_call 79; refine HC.out.mono ?_; rintro e w' ⟨rfl, rfl⟩)
  go_ret
  exact ⟨rfl, rfl⟩
/-- The further sites together with the rest, in order. -/
def togB (L : List SiteD) (rest : List Int) (losses left : Int) (more : List Int) : Bool := holdF L losses left (sortI (rest ++ more))
theorem restore2_c (R D A : Option Addr) (L : List SiteD) (more rest : List Int) (c d c1 : Nat) (losses left : Int) (b1 b2 b3 b4 : Nat) (w : World) (hL : L.length ≤ c1) (hm : more.length ≤ 100) (hr : rest.length ≤ 100) (h1 : Sites w A L) (hg : Glob w) (h2 : Sl w .i64 R more) (h3 : Sl w .i64 D rest) (hf : worstFault L (sortI (rest ++ more)) losses = (0, 0))
    (k1 : w.cell? ⟨b1, 0, none⟩ = some (.slice D rest.length d)) (k2 : w.cell? ⟨b2, 0, none⟩ = some (.slice A L.length c1)) (k3 : w.cell? ⟨b3, 0, none⟩ = some (.int .i64 losses)) (k4 : w.cell? ⟨b4, 0, none⟩ = some (.int .i64 left)) :
    Calls Try.prog 80 #[.slice R more.length c, .pointer (some ⟨b1, 0, none⟩), .pointer (some ⟨b2, 0, none⟩), .pointer (some ⟨b3, 0, none⟩), .pointer (some ⟨b4, 0, none⟩)] w (BRet w (togB L rest losses left more)) := by
  have hx := (Ext.refl w).alloc (.cells #[.slice D rest.length d, .slice R more.length c] 23)
  have HC := Lib.hid (Concat_c D R rest more d c w.heap.size (w.alloc (.cells #[.slice D rest.length d, .slice R more.length c] 23)) hr hm (h3.ext hx) (h2.ext hx) (new_blk _ _))
  have HX := Lib.hid hx
  have hsl : (rest ++ more).length ≤ 200 := by rw [List.length_append]; omega
  have HH := Lib.hid (fun w' (x : Ext w w') S s (hs : Sl w' .i64 S (sortI (rest ++ more))) => holds_c A S L (sortI (rest ++ more)) c1 s losses left w' hL (by rw [sortI_len]; unfold maxLen; omega) (h1.ext x) (hg.ext x) hs hf)
  unfold togB
  generalize holdF L losses left (sortI (rest ++ more)) = HF at *
  generalize rest ++ more = T at *
  have HK1 := Lib.hid k1
  have HK2 := Lib.hid k2
  have HK3 := Lib.hid k3
  have HK4 := Lib.hid k4
  clear h1 hg h2 h3 hf hx
  go_enter Try.func80, Try.ntmps80
  go_wp2_with (first
    | (go_at_call 81; refine HC.out.mono ?_; rintro e w5 ⟨v5, rfl, ho5, hx5⟩; have HS5 := Lib.hid (sort_own w5 _ v5 T ho5 (by omega) hx5.size); obtain ⟨R5, d5, rfl, _, _, _, _⟩ := own_sl ho5; have HX5 := Lib.hid (HX.out.trans hx5); have HB5 := Lib.hid hx5.size; clear ho5 hx5)
    | (go_at_call 52; refine HS5.out.mono ?_; rintro e w6 ⟨rfl, ho6, hb6⟩; have hx6 := HX5.out.belowTrans (Below.mono hb6 HX.out.size); have m2 := hx6.cell HK2.out; have m3 := hx6.cell HK3.out; have m4 := hx6.cell HK4.out; have HX6 := Lib.hid hx6; have HL6 : Hid (Sl w6 .i64 R5 (sortI T)) := (by obtain ⟨_, _, he, _, _, _, hs⟩ := own_sl ho6; cases he; exact hs); have HC6 := Lib.hid (HH.out w6 hx6 R5 d5 HL6.out); rw [sortI_len] at HC6; clear ho6 hb6 hx6)
    | (go_at_call 67; refine HC6.out.mono ?_; rintro e w7 ⟨rfl, hx7⟩; have HX7 := Lib.hid (HX6.out.trans hx7); clear hx7))
  go_ret
  exact ⟨rfl, HX7.out⟩
end Go.Proofs.Ytbhcaniopdgjkaa
namespace Go.Proofs.Ytbhcaniopdgjkaa
open Go Go.Proofs Go.RowKit
open Plain (SiteD)
set_option maxHeartbeats 1000000
set_option maxRecDepth 100000
theorem sub_rise {L : List SiteD} {c : List Int} (h : c.Sublist (upTo L.length)) : Plain.risingC c L.length = 0 := Plain.sub_rising h (Plain.upTo_rising L.length)
theorem spec_plan (L : List SiteD) (losses left : Int) : Plain.accC (costF L) (specB L [] losses left 0) (upTo L.length) (2 ^ L.length) = planSt L losses left := by
  unfold planSt
  refine Plain.accC_congr _ fun c hc => ?_
  unfold specB
  rw [Plain.merged_nil (sub_rise hc)]
  simp
theorem spec_keep (L : List SiteD) (need losses : Int) (h : 1 ≤ need) : Plain.accC (costF L) (specB L [] losses need need) (upTo L.length) (2 ^ L.length) = keepSt L need losses := by
  unfold keepSt
  refine Plain.accC_congr _ fun c hc => ?_
  unfold specB keepB
  rw [Plain.merged_nil (sub_rise hc), decide_eq_false (by omega), Bool.false_or]
/-- The sites that may be added. -/
def freeF (L : List SiteD) (ch lost : List Int) : List Int := withoutF (Plain.leftF L (upTo L.length) lost) (Plain.leftF L ch lost)
theorem free_sub (L : List SiteD) (ch lost : List Int) : (freeF L ch lost).Sublist (upTo L.length) := (List.filter_sublist).trans List.filter_sublist
theorem tog_merged {L : List SiteD} {ch lost c : List Int} (hc : Plain.risingC ch L.length = 0) (h : c.Sublist (freeF L ch lost)) : sortI (Plain.leftF L ch lost ++ c) = Plain.mergedF (Plain.leftF L ch lost) c L.length := by
  have h1 := Plain.risingC_iff.1 (Plain.left_rising (l := L) (lost := lost) hc)
  have h2 := Plain.risingC_iff.1 (sub_rise (h.trans (free_sub L ch lost)))
  refine Plain.merged_eq h1.2 h2.2 ?_ fun x => by rw [sortI_mem, List.mem_append]
  have hd : ∀ x ∈ Plain.leftF L ch lost, ∀ y ∈ c, x ≠ y := by
    intro x hx y hy e
    subst e
    have := (List.mem_filter.1 (h.subset hy)).2
    unfold hasB at this
    rw [List.contains_iff_mem.2 hx] at this
    cases this
  have hn : (Plain.leftF L ch lost ++ c).Nodup := by
    rw [List.nodup_append]
    exact ⟨h1.1.imp (fun q e => by omega), h2.1.imp (fun q e => by omega), fun x hx y hy e => hd x hx y hy e⟩
  have hp : (sortI (Plain.leftF L ch lost ++ c)).Nodup := (List.mergeSort_perm _ _).nodup_iff.2 hn
  exact ((sortI_sorted _).and hp).imp (fun q => by omega)
def restFault (L : List SiteD) (ch lost : List Int) (losses left : Int) : Int × Int := if leftFault L ch lost = (0, 0) then limitsF losses left (-4) else leftFault L ch lost
def restSt (L : List SiteD) (ch lost : List Int) (losses left : Int) : Option (List Int) := Plain.accC (costF L) (togB L (Plain.leftF L ch lost) losses left) (freeF L ch lost) (2 ^ (freeF L ch lost).length)
def restR (L : List SiteD) (ch lost : List Int) (losses left : Int) : List Int × Int × (Int × Int) := endR L (restFault L ch lost losses left) (restSt L ch lost losses left)
theorem spec_rest {L : List SiteD} {ch lost : List Int} (hc : Plain.risingC ch L.length = 0) (losses left : Int) : Plain.accC (costF L) (specB L (Plain.leftF L ch lost) losses left 0) (freeF L ch lost) (2 ^ (freeF L ch lost).length) = restSt L ch lost losses left := by
  unfold restSt
  refine Plain.accC_congr _ fun c hs => ?_
  unfold specB togB
  rw [tog_merged hc hs]
  simp
/-- What the plans for more say on the plan. -/
theorem safety (L : List SiteD) (losses left losses' left' : Int) (h1 : losses ≤ losses') (h2 : left ≤ left') :
    (planSt L losses left = none → planSt L losses' left' = none) ∧ ∀ a b, planSt L losses left = some a → planSt L losses' left' = some b → holdF L losses left b = true ∧ costF L a ≤ costF L b :=
  Plain.cheap_mono fun c _ hq => by
    unfold holdF at *
    have hq' := of_decide_eq_true hq
    have := Plain.few_mono (l := L) (zs := Plain.zonesF L) (chosen := c) (a := losses.toNat) (b := losses'.toNat) (by omega)
    exact decide_eq_true (by omega)
theorem plan_mem {L : List SiteD} {losses left : Int} {b : List Int} (h : planSt L losses left = some b) : b.Sublist (upTo L.length) ∧ holdF L losses left b = true := Plain.accC_mem h
theorem keep_mem {L : List SiteD} {need losses : Int} {b : List Int} (h : keepSt L need losses = some b) : b.Sublist (upTo L.length) ∧ keepB L need losses b = true := Plain.accC_mem h
theorem limits_ok {losses left idx : Int} (h : (limitsF losses left idx).1 = 0) : limitsF losses left idx = (0, 0) ∧ (0 ≤ losses ∧ losses ≤ 12) ∧ 0 ≤ left ∧ left ≤ 10 := by
  unfold limitsF at *
  by_cases e1 : inB losses 0 12 = false
  · rw [if_pos e1] at h; cases h
  · rw [if_neg e1] at h ⊢
    by_cases e2 : inB left 0 10 = false
    · rw [if_pos e2] at h; cases h
    · rw [if_neg e2]
      have a := of_decide_eq_true (Bool.not_eq_false _ ▸ e1 : inB losses 0 12 = true)
      have b := of_decide_eq_true (Bool.not_eq_false _ ▸ e2 : inB left 0 10 = true)
      exact ⟨rfl, a, b⟩
theorem limits_in {losses left idx : Int} (h1 : inB losses 0 12 = true) (h2 : inB left 0 10 = true) : limitsF losses left idx = (0, 0) := by
  unfold limitsF
  rw [if_neg (by rw [h1]; simp), if_neg (by rw [h2]; simp)]
end Go.Proofs.Ytbhcaniopdgjkaa
