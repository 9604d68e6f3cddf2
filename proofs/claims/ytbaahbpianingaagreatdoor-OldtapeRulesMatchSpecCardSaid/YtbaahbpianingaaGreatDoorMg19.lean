import Derived.Test.YtbaahbpianingaaGreatDoorMg18
import Derived.Test.YtbaahbpianingaaGreatDoorMg4
import Derived.Carry
import Derived.ChangeSlices
import Derived.OpenShut
import Derived.ProofKit
import Derived.ChangeArms
import Derived.Test.YtbaahbpianingaaGreatDoorCards
import Derived.Test.YtbaahbpianingaaGreatDoorTie
import Derived.Test.YtbaahbpianingaaGreatDoorMg3
import Derived.Deep.DeepHandedRow
import Derived.Lib.LaidTab
import Derived.Lib.ItoaNum
import Derived.ChangeMaps5
import Derived.Stop.LaidErr
namespace Go.Proofs.YtbaahbpianingaaGreatDoor
open Go Go.Proofs Go.RowKit
open Tape (Rule Ts splitP)
set_option maxHeartbeats 3200000
set_option maxRecDepth 100000
def thr : List Rule := [⟨0, 0, 1, 1, 1⟩, ⟨1, 0, 2, -1, 2⟩, ⟨2, 1, 3, 0, -1⟩]
def tx0 : Ts := { ts0 with rules := thr, cells := [0] }
def tx1 : Ts := { ts0 with rules := thr, cells := [1, 0], at_ := 1, state := 1 }
def tx3 : Ts := { ts0 with rules := thr, cells := [3, 2], at_ := 0, state := 2, stop := 1 }
theorem tx_start : startGT thr [] = (tx0, (0, 0)) := by kernel_rfl
theorem tx_run9 : runGT tx0 9 = (tx3, 3, (0, 0)) := by kernel_rfl
theorem tx_run1 : runGT tx0 1 = (tx1, 1, (0, 0)) := by kernel_rfl
theorem tx_tape : tapeG tx3 = ([3, 2], (0, 0)) := by kernel_rfl
theorem tx_mirror : mirrorG tx3 = (Tape.mirror tx3, (0, 0)) := by kernel_rfl
theorem tx_valid : faultT tx3 = (0, 0) := by kernel_rfl
theorem tx_fault : faultR thr = (0, 0) := by kernel_rfl
def txC : List Int := [48, 32, 48, 32, 49, 32, 82, 32, 49, 10, 49, 32, 48, 32, 50, 32, 76, 32, 50, 10, 50, 32, 49, 32, 51, 32, 83, 32, 72, 10]
theorem tx_text : Tape.textR thr = txC := by
  have d : ∀ n : Nat, n < 10 → Acc.dec n = [48 + (n : Int)] := fun n h => Acc.dec_small h
  unfold thr Tape.textR
  simp only [List.flatMap_cons, List.flatMap_nil, Tape.lineR, Tape.bodyR, Tape.nextF]
  rw [d (Int.toNat 0) (by decide), d (Int.toNat 1) (by decide), d (Int.toNat 2) (by decide), d (Int.toNat 3) (by decide)]
  rfl
theorem text_le {L : List Rule} (h : ∀ r ∈ L, Tape.ruleB r = true) : (Tape.textR L).length ≤ 14 * L.length := by
  induction L with
  | nil => simp [Tape.textR]
  | cons r L ih =>
    have h1 := body_len (rule_fits (h r (by simp)))
    have h2 := ih (fun q hq => h q (List.mem_cons_of_mem _ hq))
    rw [Tape.text_cons, List.length_append, List.length_cons, List.length_cons]
    omega
theorem read_write {L : List Rule} (h : faultR L = (0, 0)) : readT (Tape.textR L) = (L, (0, 0)) := by
  obtain ⟨h1, h2⟩ := rules_ok h
  have h3 := text_le h2
  unfold readT
  rw [if_neg (by omega), Tape.read_text L 0 h2]
  simp only
  rw [if_pos h]
theorem tx_write : writeT thr = (txC, (0, 0)) := by unfold writeT; rw [if_pos tx_fault, tx_text]
theorem tx_read : readT txC = (thr, (0, 0)) := by rw [← tx_text]; exact read_write tx_fault
theorem three_c (w : World) : Calls Tryz.prog 34 #[] w fun e w' => e = .returned (.slice (some ⟨w.heap.size, 0, none⟩) 3 3) ∧ w' = w.alloc (.cells (rulesV thr).toArray 54) := by
  go_enter Tryz.func34, Tryz.ntmps34
  go_wp2
  go_ret
  exact ⟨rfl, rfl⟩
/-- A variable of the state's type. -/
structure VarT (w : World) (g : Nat) (cs : Array Value) (s : Ts) : Prop where
  g : w.heap[g]? = some (.cells cs 25 (0, 0))
  st : TsIs w cs s
theorem VarT.ext {w w' : World} {g : Nat} {cs : Array Value} {s : Ts} (h : VarT w g cs s) (x : Ext w w') : VarT w' g cs s := ⟨ext_heap x h.g, h.st.ext x⟩
def asgWT (w1 : World) (cs' : Array Value) (c i : Int) : World := ((((w1.alloc (.cells zeroTs 25)).alloc (.cells #[.int .i64 0, .int .i64 0] 27)).setRow w1.heap.size cs').setRow (w1.heap.size + 1) #[.int .i64 c, .int .i64 i])
structure AsgT (w1 W : World) (cs' : Array Value) (s : Ts) (c i : Int) : Prop where
  v : VarT W w1.heap.size cs' s
  f : W.heap[w1.heap.size + 1]? = some (.cells #[.int .i64 c, .int .i64 i] 27 (0, 0))
  x : Ext w1 W
theorem asgT_mk (w1 : World) {cs' : Array Value} {s : Ts} (h : TsIs w1 cs' s) (c i : Int) : AsgT w1 (asgWT w1 cs' c i) cs' s c i := by
  have hx : Ext w1 (asgWT w1 cs' c i) := (((((Ext.refl w1).alloc _).alloc _).setRow (Nat.le_refl _) _).setRow (by omega) _)
  have hh := stepT_heap w1 cs' c i (.cells #[.int .i64 0, .int .i64 0] 27)
  exact ⟨⟨hh.1, h.ext hx⟩, hh.2, hx⟩
theorem rls_block {w : World} {g : Nat} {L : List Rule} {t : TypeId} (h : w.heap[g]? = some (.cells (rulesV L).toArray t (0, 0))) : Rls w (some ⟨g, 0, none⟩) L := by
  intro i u hu
  refine ⟨_, rfl, ?_⟩
  rw [add_off, Nat.zero_add, blk_cell h]
  simpa using hu
theorem thr_wf : ∀ r ∈ thr, RuleWf r := fun r hr => fits_wf (rule_fits ((rules_ok tx_fault).2 r hr))
end Go.Proofs.YtbaahbpianingaaGreatDoor
namespace Go.Proofs.YtbaahbpianingaaGreatDoor
open Go Go.RowKit Go.WideShapes Go.ChangeShapes
section
variable {H : Type} {enc : TypeId × Value → H} {P : Program}
/-- The arguments read behind the call as they read before. -/
theorem trodAll_stay (hl : laidOutB P = true) {W W' : World} (hb : Below W.heap.size W W') (sp : Nat → Bool) : ∀ {ts : List TypeId} {vs : List Value} {ds : List (DataW H)} {ps : List MemPlace},
    (∀ t ∈ ts, P.readableRec t = true ∧ t < P.types.size) → DataW.TrodAll enc P W 0 (fun _ => true) true ts vs ds ps → (∀ x ∈ ps, x.block < W.heap.size) → (∀ x ∈ ps, sp x.block = true) → DataW.TrodAll enc P W' 0 sp true ts vs ds ps
  | [], vs, ds, ps, _, h, _, _ => by
    obtain ⟨rfl, rfl, rfl⟩ := trodAll_nil h
    exact trodAll_mk0
  | t :: ts, vs, ds, ps, ht, h, hlt, hsp => by
    obtain ⟨v, vs', d, ds', p, q, rfl, rfl, rfl, h0, hr⟩ := trodAll_cons h
    refine trodAll_cons_mk (WideElems.Trod_stays hl (ht t (by simp)).1 (ht t (by simp)).2 h0 (fun x hx => hb.same (hlt x (by simp [hx]))) fun x hx => hsp x (by simp [hx])) ?_
    exact trodAll_stay hl hb sp (fun t' h' => ht t' (by simp [h'])) hr (fun x hx => hlt x (by simp [hx])) fun x hx => hsp x (by simp [hx])
/-- A law that answers true and leaves all that was there. -/
theorem law_post {f : Func} {s : ChangeSpec} {W W' : World} {args : Array Value} {ds gs : List (DataW H)} {before : List MemPlace} {tb : TypeId} {fresh handsOn again : Bool}
    (hl : laidOutB P = true) (hps : ∀ t ∈ f.params.toList, P.readableRec t = true ∧ t < P.types.size) (hrt : f.resultTypes = #[tb]) (htb : P.underlying tb = some .bool)
    (hvars : s.vars = []) (hfn : (s.fn H ds) = { results := [.lit (.bool true)], args := ds })
    (hW : DataW.Whole enc P f.params.toList s.vars false W args.toList ds gs before) (hb : Below W.heap.size W W') :
    s.post enc P f false fresh handsOn again W args (.bool true) W' := by
  have hlt : ∀ p ∈ before, p.block < W.heap.size := fun p hp => hW.lt p hp
  have hW' := hW
  obtain ⟨pa, pv, hA, hV, hpp, hz, hn⟩ := hW
  rw [hvars] at hV
  obtain ⟨hg, hpv⟩ := trodVars_none hV
  subst hg
  subst hpv
  rw [List.append_nil] at hpp
  subst hpp
  have hold : ∀ p ∈ before, (fun b => decide (b < W.heap.size)) p.block = true := fun p hp => by simpa using hlt p hp
  have hres : ∀ (b : Nat) (sp : Nat → Bool) (hd : Bool), DataW.TrodAll enc P W' b sp hd f.resultTypes.toList ((Value.bool true).resultList f.resultTypes.size) (s.fn H (ds ++ [])).results [] := fun b sp hd => by
    rw [hrt, List.append_nil, hfn]
    exact trodAll_cons_mk (shut_bool htb _) trodAll_mk0
  have hargs : ∀ sp : Nat → Bool, (∀ p ∈ before, sp p.block = true) → DataW.TrodAll enc P W' 0 sp true f.params.toList args.toList (s.fn H (ds ++ [])).args before := fun sp hsp => by
    rw [List.append_nil, hfn]
    exact trodAll_stay hl hb sp hps hA hlt hsp
  have hvv : ∀ sp : Nat → Bool, DataW.TrodVars enc P W' sp s.vars (s.fn H (ds ++ [])).vars [] := fun sp => by
    rw [hvars, List.append_nil, hfn]
    exact rfl
  refine ⟨ds, [], before, [], before, [], hW', hres _ _ _, hargs _ hold, hvv _, World.keptBut_mono (fun p hp => ⟨hp, Or.inr (by simpa using hp)⟩) (hb.frame (· ∈ before)), fun _ => ?_⟩
  refine ⟨?_, _, _, ([] ++ before) ++ [], ⟨[] ++ before, [], trodAll_append (hargs _ (fun _ _ => rfl)) (hres _ _ _), hvv _, rfl, ?_, ?_⟩, ?_⟩
  · intro j t r hj hr
    rw [hrt] at hj hr
    match j, hj, hr with
    | 0, hj, hr =>
      simp [Value.resultList] at hj hr
      subst hj; subst hr
      exact okWide_bool_mk htb _
  · intro b off hp
    have hin : MemPlace.cell b off ∈ before := by simpa using hp
    rw [hb.frozen (hlt _ hin)]
    exact hz b off hin
  · intro ha
    cases ha
  · intro p hp _
    simpa using hp
/-- An argument (or a field) that is a slice of integers. -/
theorem slAt_trod {w : World} {base : Nat} {spare : Nat → Bool} {held : Bool} {t e : TypeId} {k : IntKind} {fuel : Nat} {v : Value} {x : DataW H × List MemPlace} (ht : P.underlying t = some (.slice e)) (he : P.underlying e = some (.int k)) (hc : P.cellsOf e = 1)
    (h : DataW.trod enc P w base spare held fuel t [v] = some x) : ∃ l, SlAt w k (some v) l ∧ ∀ n ∈ l, (Lit.int k n).wf = true := by
  rcases open_ints ht he hc h with ⟨hv, _⟩ | ⟨a, len, cap, zs, hv, _, hlc, hcm, hz, _, hcell, hwf⟩
  · injection hv with hv
    subst hv
    exact ⟨[], ⟨none, 0, rfl, Nat.le_refl _, by simp [maxLen], fun _ => rfl, SlC.nil _ _⟩, fun n hn => by simp at hn⟩
  · injection hv with hv
    subst hv
    have hzl : len ≤ zs.length := by rw [hz]; split <;> omega
    refine ⟨zs.take len, ⟨some a, cap, by rw [List.length_take, Nat.min_eq_left hzl], by rw [List.length_take]; omega, hcm, (fun h => by cases h), ?_⟩, fun n hn => hwf n (List.mem_of_mem_take hn)⟩
    refine Sl.mk fun i y hy => ⟨a, rfl, ?_⟩
    rw [List.getElem?_take] at hy
    split at hy
    · have hl := (List.getElem?_eq_some_iff.1 hy).1
      rw [hcell i hl]
      simp [hy]
    · cases hy
end
theorem i64_wf {n : Int} (h : (Lit.int .i64 n).wf = true) : I64 n := by
  simp [Lit.wf, IntKind.min, IntKind.max, IntKind.signed, IntKind.bits] at h
  exact ⟨by omega, by omega⟩
end Go.Proofs.YtbaahbpianingaaGreatDoor
namespace Go.Proofs.YtbaahbpianingaaGreatDoor
open Go Go.RowKit Go.WideShapes Go.ChangeShapes
open Acc (Dk)
set_option maxRecDepth 100000
theorem cells3 : Tryz.prog.cellsOf 3 = 1 := by kernel_rfl
theorem take_one {cs : List Value} {i : Nat} (h : i < cs.length) : (cs.drop i).take 1 = [cs[i]] := by
  rw [List.drop_eq_getElem_cons h]; rfl
end Go.Proofs.YtbaahbpianingaaGreatDoor
namespace Go.Proofs.YtbaahbpianingaaGreatDoor
open Go Go.RowKit Go.WideShapes Go.ChangeShapes
open Tape (Rule Ts)
set_option maxRecDepth 100000
theorem cellsR : Tryz.prog.cellsOf 54 = 5 := by kernel_rfl
theorem cellsL : Tryz.prog.cellsOf 22 = 1 := by kernel_rfl
theorem cellsI : Tryz.prog.cellsOf 23 = 1 := by kernel_rfl
theorem cellsQ : Tryz.prog.cellsOf 25 = 5 := by kernel_rfl
section
variable {H : Type} {enc : TypeId × Value → H}
theorem rule_trod {W : World} {base fuel : Nat} {sp : Nat → Bool} {hd : Bool} {cs : List Value} {x : DataW H × List MemPlace} {b o : Nat} (h : DataW.trod enc Tryz.prog W base sp hd fuel 54 cs = some x) (hc : ∀ j, j < 5 → W.cell? ⟨b, o + j, none⟩ = cs[j]?) : ∃ r, RuleAt W b o r ∧ RuleWf r := by
  obtain ⟨xs, n, _, _, hl, hlen, hg⟩ := DataW.trod_struct Tryz.underlying54 h
  rw [cellsR] at hl
  have get : ∀ (j : Nat) (hj : j < 5) (t : TypeId), Tryz.prog.cellsOf t = 1 → DataW.trod enc Tryz.prog W base sp hd n t ((cs.drop j).take (Tryz.prog.cellsOf t)) = xs[j]? → ∃ x, DataW.trod enc Tryz.prog W base sp hd n t [cs[j]'(by omega)] = some x := by
    intro j hj t hc he
    rw [hc, take_one (by omega), List.getElem?_eq_getElem (by rw [hlen]; exact hj)] at he
    exact ⟨_, by simpa using he⟩
  obtain ⟨x0, h0⟩ := get 0 (by omega) 3 cells3 (hg 0 _ rfl)
  obtain ⟨x1, h1⟩ := get 1 (by omega) 3 cells3 (hg 1 _ rfl)
  obtain ⟨x2, h2⟩ := get 2 (by omega) 3 cells3 (hg 2 _ rfl)
  obtain ⟨x3, h3⟩ := get 3 (by omega) 3 cells3 (hg 3 _ rfl)
  obtain ⟨x4, h4⟩ := get 4 (by omega) 3 cells3 (hg 4 _ rfl)
  obtain ⟨n0, e0, _, w0⟩ := DataW.trod_int Tryz.underlying3 h0
  obtain ⟨n1, e1, _, w1⟩ := DataW.trod_int Tryz.underlying3 h1
  obtain ⟨n2, e2, _, w2⟩ := DataW.trod_int Tryz.underlying3 h2
  obtain ⟨n3, e3, _, w3⟩ := DataW.trod_int Tryz.underlying3 h3
  obtain ⟨n4, e4, _, w4⟩ := DataW.trod_int Tryz.underlying3 h4
  injection e0 with e0
  injection e1 with e1
  injection e2 with e2
  injection e3 with e3
  injection e4 with e4
  have c0 := hc 0 (by omega)
  have c1 := hc 1 (by omega)
  have c2 := hc 2 (by omega)
  have c3 := hc 3 (by omega)
  have c4 := hc 4 (by omega)
  rw [List.getElem?_eq_getElem (by omega)] at c0 c1 c2 c3 c4
  rw [e0] at c0
  rw [e1] at c1
  rw [e2] at c2
  rw [e3] at c3
  rw [e4] at c4
  exact ⟨⟨n0, n1, n2, n3, n4⟩, ⟨c0, c1, c2, c3, c4⟩, ⟨i64_wf w0, i64_wf w1, i64_wf w2, i64_wf w3, i64_wf w4⟩⟩
theorem rls_mk {W : World} {b o : Nat} {L : List Rule} (h : ∀ (i : Nat) (r : Rule), L[i]? = some r → RuleAt W b (o + i * 5) r) : Rls W (some ⟨b, o, none⟩) L := by
  intro j u hu
  have hj := (List.getElem?_eq_some_iff.1 hu).1
  rw [rulesV_len] at hj
  have hi : j / 5 < L.length := by omega
  have hr : L[j / 5]? = some L[j / 5] := List.getElem?_eq_getElem hi
  have hv := rulesV_get L (j / 5) (j % 5) _ hr (by omega)
  rw [show j / 5 * 5 + j % 5 = j by omega, hu] at hv
  have := (h _ _ hr).cells (j % 5) u hv.symm
  refine ⟨_, rfl, ?_⟩
  rw [add_off]
  rw [show o + j / 5 * 5 + j % 5 = o + j by omega] at this
  exact this
theorem open_rules {W : World} {base fuel : Nat} {sp : Nat → Bool} {hd : Bool} {cs : List Value} {x : DataW H × List MemPlace} (h : DataW.trod enc Tryz.prog W base sp hd fuel 22 cs = some x) :
    ∃ A L c, cs = [.slice A L.length c] ∧ L.length ≤ c ∧ c ≤ maxLen ∧ (A = none → c = 0) ∧ Rls W A L ∧ ∀ r ∈ L, RuleWf r := by
  rcases DataW.trod_slice Tryz.underlying22 h with ⟨rfl, _⟩ | ⟨a, len, cap, elems, rest, n, _, rfl, _, hb, hl, hm, hlen, hel, _, _⟩
  · exact ⟨none, [], 0, rfl, Nat.le_refl _, by simp [maxLen], fun _ => rfl, SlC.nil _ _, fun r hr => by simp at hr⟩
  · have hspot : 0 < len → ∃ b o, a = ⟨b, o, none⟩ := by
      intro hi
      have he := hel 0 hi
      rw [cellsR, List.getElem?_eq_getElem (by omega)] at he
      obtain ⟨cs', hc, ht⟩ := Option.bind_eq_some_iff.1 he
      obtain ⟨_, hcl, hat⟩ := World.cells?_some hc
      have h0 := hat 0 (by omega)
      rw [List.getElem?_eq_getElem (by omega)] at h0
      obtain ⟨b, o, s⟩ := a
      cases s with
      | none => exact ⟨b, o, rfl⟩
      | some s => simp [Addr.add, World.cell?] at h0; split at h0 <;> simp at h0
    have each : ∀ i, i < len → ∃ r, (∃ b o, a = ⟨b, o, none⟩ ∧ RuleAt W b (o + i * 5) r) ∧ RuleWf r := by
      intro i hi
      have he := hel i hi
      rw [cellsR, List.getElem?_eq_getElem (by omega)] at he
      obtain ⟨cs', hc, ht⟩ := Option.bind_eq_some_iff.1 he
      obtain ⟨_, hcl, hat⟩ := World.cells?_some hc
      obtain ⟨b, o, rfl⟩ := hspot (by omega)
      obtain ⟨r, hr, hw⟩ := rule_trod (b := b) (o := o + i * 5) ht (fun j hj => by
        have := hat j hj
        rw [add_off, add_off] at this
        exact this)
      exact ⟨r, ⟨b, o, rfl, hr⟩, hw⟩
    have hf : ∃ f : Nat → Rule, ∀ i, i < len → (∃ b o, a = ⟨b, o, none⟩ ∧ RuleAt W b (o + i * 5) (f i)) ∧ RuleWf (f i) :=
      ⟨fun i => if hi : i < len then (each i hi).choose else ⟨0, 0, 0, 0, 0⟩, fun i hi => by simp only [hi, dif_pos]; exact (each i hi).choose_spec⟩
    obtain ⟨f, hf⟩ := hf
    refine ⟨some a, (List.range len).map f, cap, by simp, by simpa using hl, hm, (fun q => by cases q), ?_, ?_⟩
    · by_cases h0 : len = 0
      · subst h0; exact SlC.nil _ _
      · obtain ⟨b, o, rfl⟩ := hspot (by omega)
        refine rls_mk fun i r hr => ?_
        have hi : i < len := by have := (List.getElem?_eq_some_iff.1 hr).1; simpa using this
        have : r = f i := by simpa [hi] using hr.symm
        subst this
        obtain ⟨⟨b', o', e, h2⟩, _⟩ := hf i hi
        cases e
        exact h2
    · intro r hr
      obtain ⟨i, hi, rfl⟩ := List.mem_map.1 hr
      exact (hf i (by simpa using hi)).2
theorem open_tape {W : World} {base : Nat} {sp : Nat → Bool} {hd : Bool} {r : Reach} {b0 : Nat} {v : Value} {d : DataW H} {p : List MemPlace} (hv : Value.okWide Tryz.prog W r b0 25 v) (h : DataW.Trod enc Tryz.prog W base sp hd 25 v d p) :
    ∃ cs s, v = .agg cs ∧ TsIs W cs s := by
  obtain ⟨cs, rfl, hsz⟩ := okWide_struct Tryz.underlying25 hv
  rw [cellsQ] at hsz
  obtain ⟨fuel, hf⟩ := h
  obtain ⟨xs, n, _, _, _, hlen, hg⟩ := DataW.trod_struct Tryz.underlying25 hf
  have hl : cs.toList.length = 5 := by simpa using hsz
  have hcl : (Value.agg cs).cells.toList = cs.toList := by simp [Value.cells]
  rw [hcl] at hg
  have get : ∀ (j : Nat) (hj : j < 5) (t : TypeId), Tryz.prog.cellsOf t = 1 → DataW.trod enc Tryz.prog W base sp hd n t ((cs.toList.drop j).take (Tryz.prog.cellsOf t)) = xs[j]? → ∃ x, DataW.trod enc Tryz.prog W base sp hd n t [cs[j]'(by omega)] = some x := by
    intro j hj t hc he
    rw [hc, take_one (by omega), List.getElem?_eq_getElem (by rw [hlen]; exact hj)] at he
    exact ⟨_, by simpa using he⟩
  obtain ⟨x0, h0⟩ := get 0 (by omega) 22 cellsL (hg 0 _ rfl)
  obtain ⟨x1, h1⟩ := get 1 (by omega) 23 cellsI (hg 1 _ rfl)
  obtain ⟨x2, h2⟩ := get 2 (by omega) 3 cells3 (hg 2 _ rfl)
  obtain ⟨x3, h3⟩ := get 3 (by omega) 3 cells3 (hg 3 _ rfl)
  obtain ⟨x4, h4⟩ := get 4 (by omega) 3 cells3 (hg 4 _ rfl)
  obtain ⟨A, L, c, e0, l1, l2, l3, l4, l5⟩ := open_rules h0
  obtain ⟨l, ⟨B, d1, e1, s1, s2, s3, s4⟩, lw⟩ := slAt_trod Tryz.underlying23 Tryz.underlying3 cells3 h1
  obtain ⟨n2, e2, _, w2⟩ := DataW.trod_int Tryz.underlying3 h2
  obtain ⟨n3, e3, _, w3⟩ := DataW.trod_int Tryz.underlying3 h3
  obtain ⟨n4, e4, _, w4⟩ := DataW.trod_int Tryz.underlying3 h4
  injection e0 with e0
  injection e1 with e1
  injection e2 with e2
  injection e3 with e3
  injection e4 with e4
  refine ⟨cs, ⟨L, l, n2, n3, n4⟩, rfl, hsz, ⟨A, c, ?_, l1, l2, l3, l4⟩, ⟨B, d1, ?_, s1, s2, s3, s4⟩, ?_, ?_, ?_, ⟨l5, fun x hx => i64_wf (lw x hx), i64_wf w2, i64_wf w3, i64_wf w4⟩⟩
  · rw [Array.getElem?_eq_getElem (by omega), e0]
  · rw [Array.getElem?_eq_getElem (by omega), e1]
  · rw [Array.getElem?_eq_getElem (by omega), e2]
  · rw [Array.getElem?_eq_getElem (by omega), e3]
  · rw [Array.getElem?_eq_getElem (by omega), e4]
end
end Go.Proofs.YtbaahbpianingaaGreatDoor
namespace Go.Proofs.YtbaahbpianingaaGreatDoor
open Go Go.ChangeShapes Go.WideShapes Go.ChangeAt Go.RowKit
set_option maxRecDepth 100000
theorem own : ownKnob Tryz.prog.godebug = none := by kernel_rfl
theorem laidOut : laidOutB Tryz.prog = true := by kernel_rfl
theorem gPow : Tryz.prog.globalNamed "internal/strconv.uint64pow10" = some 1 := by kernel_rfl
theorem gPowType : ∃ t e, (Tryz.prog.globals[1]?).map (·.type) = some t ∧ Tryz.prog.underlying t = some (.array 20 e) ∧ Tryz.prog.underlying e = some (.int .u64) ∧ Tryz.prog.cellsOf e = 1 ∧ Tryz.prog.cellsOf t = 20 := ⟨_, _, rfl, rfl, rfl, by kernel_rfl, by kernel_rfl⟩
theorem powTab : (Rows.laid_internal_strconv_uint64pow10 : DataW Unit) = Lib.tabData .u64 Lib.pow10Tab := by kernel_rfl
def d32V : Array Value := (([0, 1, 28, 2, 29, 14, 24, 3, 30, 22, 20, 15, 25, 17, 4, 8, 31, 27, 13, 23, 21, 19, 16, 7, 26, 12, 18, 6, 11, 5, 10, 9] : List Int).map (Value.int .u8)).toArray
def d64V : Array Value := (([0, 1, 56, 2, 57, 49, 28, 3, 61, 58, 42, 50, 38, 29, 17, 4, 62, 47, 59, 36, 45, 43, 51, 22, 53, 39, 33, 30, 24, 18, 12, 5, 63, 55, 48, 27, 60, 41, 37, 16, 46, 35, 44, 21, 52, 32, 23, 11, 54, 26, 40, 15, 34, 20, 31, 10, 25, 14, 19, 9, 13, 8, 7, 6] : List Int).map (Value.int .u8)).toArray
def powV : Array Value := (([1, 10, 100, 1000, 10000, 100000, 1000000, 10000000, 100000000, 1000000000, 10000000000, 100000000000, 1000000000000, 10000000000000, 100000000000000, 1000000000000000, 10000000000000000, 100000000000000000, 1000000000000000000, 10000000000000000000] : List Int).map (Value.int .u64)).toArray
def putRow (cs : Array Value) : Obj → Obj
  | .cells _ t frozen => .cells cs t frozen
  | o => o
section
variable {H : Type} {enc : TypeId × Value → H} {W : World} {r : Reach} {b0 base : Nat} {sp : Nat → Bool} {held : Bool} {v : Value} {d : DataW H} {ps : List MemPlace}
theorem arg_ints (hval : Value.okWide Tryz.prog W r b0 23 v) (hd : DataW.Trod enc Tryz.prog W base sp held 23 v d ps) : ∃ A l c, v = .slice A l.length c ∧ l.length ≤ maxLen ∧ Sl W .i64 A l := by
  obtain ⟨a, len, cap, rfl⟩ := okWide_slice Tryz.underlying23 hval
  obtain ⟨fuel, hf⟩ := hd
  have hf' : DataW.trod enc Tryz.prog W base sp held fuel 23 [Value.slice a len cap] = some (d, ps) := hf
  obtain ⟨l, ⟨A, c, h1, h2, h3, _, h4⟩, _⟩ := slAt_trod Tryz.underlying23 Tryz.underlying3 cells3 hf'
  injection h1 with h1
  exact ⟨A, l, c, h1, Nat.le_trans h2 h3, h4⟩
end
end Go.Proofs.YtbaahbpianingaaGreatDoor
namespace Go.Proofs.YtbaahbpianingaaGreatDoor
open Go Go.ChangeShapes Go.WideShapes Go.ChangeAt Go.RowKit
open Tape (Rule Ts)
set_option maxRecDepth 100000
def laidLT : List (String × DataW Unit) := [("math/bits.deBruijn32tab", Rows.laid_math_bits_deBruijn32tab), ("math/bits.deBruijn64tab", Rows.laid_math_bits_deBruijn64tab), ("internal/strconv.uint64pow10", Rows.laid_internal_strconv_uint64pow10), ("unicode/utf8.acceptRanges", Rows.laid_unicode_utf8_acceptRanges), ("strconv.ErrRange", Rows.laid_strconv_ErrRange), ("strconv.ErrSyntax", Rows.laid_strconv_ErrSyntax), ("unicode/utf8.first", Rows.laid_unicode_utf8_first)]
theorem tabs_ofT {W : World} (h : laidMetH Tryz.prog laidLT W) : Tabs W := by
  have h' : laidMet Tryz.prog laidLT W := h
  have h2 : laidMet Tryz.prog [("internal/strconv.uint64pow10", Rows.laid_internal_strconv_uint64pow10)] W := h'.filter (fun x => x.1 == "internal/strconv.uint64pow10")
  rw [powTab] at h2
  obtain ⟨t, e, t1, t2, t3, t4, t5⟩ := gPowType
  have a : Lib.TabIs Tryz.prog W "internal/strconv.uint64pow10" .u64 Lib.pow10Tab := Lib.tabIs_of_head gPow t1 t2 t3 t4 t5 h2
  intro w' hb
  unfold Lib.TabIs World.var? at a ⊢
  simp only [gPow, Option.bind_some] at a ⊢
  have hlt : 1 < W.heap.size := by
    rcases Nat.lt_or_ge 1 W.heap.size with h' | h'
    · exact h'
    · rw [Array.getElem?_eq_none h'] at a; simp at a
  rw [hb.block 1 (by decide)]
  exact a
theorem gES : Tryz.prog.globalNamed "strconv.ErrSyntax" = some 2 := by kernel_rfl
theorem g144ype : (Tryz.prog.globals[2]?).map (·.type) = some 82 := by kernel_rfl
theorem gER : Tryz.prog.globalNamed "strconv.ErrRange" = some 3 := by kernel_rfl
theorem gERType : (Tryz.prog.globals[3]?).map (·.type) = some 82 := by kernel_rfl
theorem cellsES : Tryz.prog.cellsOf 144 = 1 := by kernel_rfl
theorem cells9 : Tryz.prog.cellsOf 9 = 1 := by kernel_rfl
theorem starE : "*" ++ "errors.errorString" = "*errors.errorString" := by decide
theorem rowE (u : TypeId) (h : Tryz.prog.typeName? 3 u = some "*errors.errorString") : u = 142 :=
  typeName_ptr_named (nm := "errors.errorString") (by rw [starE]; kernel_rfl) (by kernel_rfl) (by decide) u (by rw [starE]; exact h)
theorem tabT_of {W : World} (h : laidMetH Tryz.prog laidLT W) (hs : W.ShapedOpen Tryz.prog) : TabT W := by
  have h' : laidMet Tryz.prog laidLT W := h
  have hE : laidMet Tryz.prog [("strconv.ErrSyntax", Rows.laid_strconv_ErrSyntax)] W := h'.filter (fun x => x.1 == "strconv.ErrSyntax")
  have hR : laidMet Tryz.prog [("strconv.ErrRange", Rows.laid_strconv_ErrRange)] W := h'.filter (fun x => x.1 == "strconv.ErrRange")
  obtain ⟨a0, s0, hv0, -, -, -⟩ := laid_sentinel hE gES g144ype Tryz.underlying82 rowE Tryz.underlying142 Tryz.underlying144 rfl rfl Tryz.underlying9 cellsES cells9
  obtain ⟨a1, s1, hv1, -, -, -⟩ := laid_sentinel hR gER gERType Tryz.underlying82 rowE Tryz.underlying142 Tryz.underlying144 rfl rfl Tryz.underlying9 cellsES cells9
  have c2 : W.cell? ⟨2, 0, none⟩ = some (.iface 142 (.pointer (some a0))) := by have h0 := World.var?_cell gES hv0 0; simpa using h0
  have c3 : W.cell? ⟨3, 0, none⟩ = some (.iface 142 (.pointer (some a1))) := by have h0 := World.var?_cell gER hv1 0; simpa using h0
  refine ⟨tabs_ofT h, cell_of_shapedOpen_int (zero := #[.int .i64 0]) (t := 3) hs (of_decide_eq_true (by kernel_rfl)) (by kernel_rfl) rfl (by kernel_rfl) (by kernel_rfl) Tryz.underlying3, ⟨_, c2, .inr ⟨_, _, rfl⟩⟩, ⟨_, c3, .inr ⟨_, _, rfl⟩⟩, ?_⟩
  have := World.block_lt_of_cell? W _ c3
  exact this
def firstV : Array Value := (Go.Pinned.utf8FirstZ.map (fun n : Nat => Value.int .u8 (n : Int))).toArray
def acceptV : Array Value := (([128, 191, 160, 191, 128, 159, 144, 191, 128, 143, 0, 0, 0, 0, 0, 0, 0, 0, 0, 0, 0, 0, 0, 0, 0, 0, 0, 0, 0, 0, 0, 0] : List Int).map (Value.int .u8)).toArray
def synS : ByteArray := ⟨#[105, 110, 118, 97, 108, 105, 100, 32, 115, 121, 110, 116, 97, 120]⟩
def ranS : ByteArray := ⟨#[118, 97, 108, 117, 101, 32, 111, 117, 116, 32, 111, 102, 32, 114, 97, 110, 103, 101]⟩
noncomputable def lowT : Nat := (World.holding Tryz.prog default ⟨#[], #[], []⟩).heap.size
noncomputable def laidWorldT (os : Os) : World :=
  let w0 := World.holding Tryz.prog os ⟨#[.cells #[.string synS] 144, .cells #[.string ranS] 144], #[], []⟩
  { w0 with heap := (((((((w0.heap.modify 1 (putRow powV)).modify 4 (putRow d32V)).modify 5 (putRow d64V)).modify 6 (putRow firstV)).modify 7 (putRow acceptV)).modify 2 (putRow #[.iface 142 (.pointer (some ⟨lowT, 0, none⟩))])).modify 3 (putRow #[.iface 142 (.pointer (some ⟨lowT + 1, 0, none⟩))])) }
section
variable {H : Type} {enc : TypeId × Value → H} {W : World} {r : Reach} {b0 base : Nat} {sp : Nat → Bool} {held : Bool} {v : Value} {d : DataW H} {ps : List MemPlace}
theorem arg_rules (hval : Value.okWide Tryz.prog W r b0 22 v) (hd : DataW.Trod enc Tryz.prog W base sp held 22 v d ps) : ∃ A L c, v = .slice A L.length c ∧ L.length ≤ maxLen ∧ Rls W A L ∧ ∀ q ∈ L, RuleWf q := by
  obtain ⟨a, len, cap, rfl⟩ := okWide_slice Tryz.underlying22 hval
  obtain ⟨fuel, hf⟩ := hd
  have hf' : DataW.trod enc Tryz.prog W base sp held fuel 22 [Value.slice a len cap] = some (d, ps) := hf
  obtain ⟨A, L, c, e, h1, h2, _, h4, h5⟩ := open_rules hf'
  injection e with e
  exact ⟨A, L, c, e, Nat.le_trans h1 h2, h4, h5⟩
end
def zeroLitT : Value := .agg #[.slice none 0 0, .slice none 0 0, .int .i64 0, .int .i64 0, .int .i64 0]
def zeroDataT {H : Type} : DataW H := .agg [.nil, .nil, .lit (.int .i64 0), .lit (.int .i64 0), .lit (.int .i64 0)]
end Go.Proofs.YtbaahbpianingaaGreatDoor
namespace Go.Proofs.YtbaahbpianingaaGreatDoor
open Go Go.Proofs Go.RowKit
open Tape (Rule Ts)
set_option maxHeartbeats 1600000
set_option maxRecDepth 100000
theorem ruleB_turn (r : Rule) : Tape.ruleB (Tape.turn r) = Tape.ruleB r := by
  rw [Bool.eq_iff_iff, Tape.ruleB_iff, Tape.ruleB_iff]
  unfold Tape.turn
  simp only
  constructor
  · rintro ⟨a, b, c, d, e⟩; exact ⟨a, b, c, by omega, e⟩
  · rintro ⟨a, b, c, d, e⟩; exact ⟨a, b, c, by omega, e⟩
theorem ordB_turn (p : Option Rule) (r : Rule) : ordB (p.map Tape.turn) (Tape.turn r) = ordB p r := by cases p <;> rfl
theorem scanR_turn : ∀ (L : List Rule) (i : Nat) (p : Option Rule), scanR i (p.map Tape.turn) (L.map Tape.turn) = scanR i p L
  | [], _, _ => rfl
  | r :: L, i, p => by
    have ih := scanR_turn L (i + 1) (some r)
    rw [List.map_cons, scanR, scanR, ruleB_turn, ordB_turn]
    rw [show some (Tape.turn r) = (some r).map Tape.turn from rfl, ih]
theorem faultR_turn (L : List Rule) : faultR (L.map Tape.turn) = faultR L := by
  unfold faultR
  rw [List.length_map]
  have := scanR_turn L 0 none
  rw [Option.map_none] at this
  rw [this]
theorem faultT_of_ok {s : Ts} (h : Tape.Ok s) (hr : faultR s.rules = (0, 0)) : faultT s = (0, 0) := by
  have h1 := h.len
  have h2 := h.at_
  have h3 := h.state
  have h4 := h.stop
  have hb : badB s.cells = false := by
    unfold badB
    rw [List.any_eq_false]
    intro c hc
    have := h.cells c hc
    unfold symB inB
    simp
    omega
  unfold faultT
  rw [if_neg (by rw [hr]; simp), if_neg (by unfold inB; simp; omega), if_neg]
  simp only [not_or, hb]
  unfold inB
  refine ⟨by decide, ?_, ?_, ?_⟩
  all_goals simp
  all_goals omega
theorem mirror_ok {s : Ts} (h : Tape.Ok s) : Tape.Ok (Tape.mirror s) := by
  have h2 := h.at_
  refine { rules := ?_, len := ?_, cells := ?_, at_ := ?_, state := h.state, stop := h.stop }
  · intro r hr
    obtain ⟨q, hq, rfl⟩ := List.mem_map.1 (show r ∈ s.rules.map Tape.turn from hr)
    rw [ruleB_turn]; exact h.rules q hq
  · show 1 ≤ s.cells.reverse.length ∧ s.cells.reverse.length ≤ 200
    rw [List.length_reverse]; exact h.len
  · intro c hc
    exact h.cells c (by simpa using (show c ∈ s.cells.reverse from hc))
  · show 0 ≤ (s.cells.length : Int) - 1 - s.at_ ∧ (s.cells.length : Int) - 1 - s.at_ < (s.cells.reverse.length : Int)
    rw [List.length_reverse]; omega
theorem faultT_rules {s : Ts} (h : faultT s = (0, 0)) : faultR s.rules = (0, 0) := by
  unfold faultT at h
  split at h
  · rename_i h1; exact absurd h h1
  · rename_i h1; exact Classical.not_not.1 h1
theorem faultT_mirror {s : Ts} (h : faultT s = (0, 0)) : faultT (Tape.mirror s) = (0, 0) :=
  faultT_of_ok (mirror_ok (okt_of h).1) (by show faultR (s.rules.map Tape.turn) = _; rw [faultR_turn]; exact faultT_rules h)
/-- States are equal, as the specification asks it. -/
def sameTB (a b : Ts) : Bool := decide (a.rules = b.rules) && decide (a.cells = b.cells) && decide (a.at_ = b.at_) && decide (a.state = b.state) && decide (a.stop = b.stop)
end Go.Proofs.YtbaahbpianingaaGreatDoor
