import Derived.Test.YtbaahbpianingaaDoorMg33
import Derived.Test.YtbaahbpianingaaDoorMg19
import Derived.Test.YtbaahbpianingaaDoorMg13
import Derived.Carry
import Derived.ChangeSlices
import Derived.OpenShut
import Derived.ProofKit
import Derived.ChangeArms
import Derived.Test.YtbaahbpianingaaDoorCards
import Derived.Test.YtbaahbpianingaaDoorTie
import Derived.Test.YtbaahbpianingaaDoorMg8
import Derived.Deep.DeepHandedRow
import Derived.Lib.LaidTab
import Derived.Lib.ItoaNum
import Derived.ChangeMaps5
namespace Go.Proofs.YtbaahbpianingaaDoor
open Go Go.Proofs Go.RowKit
open Tape (Rule Ts splitP)
set_option maxHeartbeats 3200000
set_option maxRecDepth 100000
def thr : List Rule := [⟨0, 0, 1, 1, 1⟩, ⟨1, 0, 2, -1, 2⟩, ⟨2, 1, 3, 0, -1⟩]
def tx0 : Ts := { ts0 with rules := thr, cells := [0] }
def tx1 : Ts := { ts0 with rules := thr, cells := [1, 0], at_ := 1, state := 1 }
def tx3 : Ts := { ts0 with rules := thr, cells := [3, 2], at_ := 0, state := 2, stop := 1 }
theorem tx_start : startGT thr [] = (tx0, (0, 0)) := by kernel_rfl
theorem tx_run9 : runGT tx0 9 = (tx3, 3, (0, 0)) := by kernel_rfl
theorem tx_run1 : runGT tx0 1 = (tx1, 1, (0, 0)) := by kernel_rfl
theorem tx_tape : tapeG tx3 = ([3, 2], (0, 0)) := by kernel_rfl
theorem tx_mirror : mirrorG tx3 = (Tape.mirror tx3, (0, 0)) := by kernel_rfl
theorem tx_valid : faultT tx3 = (0, 0) := by kernel_rfl
theorem tx_fault : faultR thr = (0, 0) := by kernel_rfl
def txC : List Int := [48, 32, 48, 32, 49, 32, 82, 32, 49, 10, 49, 32, 48, 32, 50, 32, 76, 32, 50, 10, 50, 32, 49, 32, 51, 32, 83, 32, 72, 10]
theorem tx_text : Tape.textR thr = txC := by
  have d : ∀ n : Nat, n < 10 → Acc.dec n = [48 + (n : Int)] := fun n h => Acc.dec_small h
  unfold thr Tape.textR
  simp only [List.flatMap_cons, List.flatMap_nil, Tape.lineR, Tape.bodyR, Tape.nextF]
  rw [d (Int.toNat 0) (by decide), d (Int.toNat 1) (by decide), d (Int.toNat 2) (by decide), d (Int.toNat 3) (by decide)]
  rfl
theorem text_le {L : List Rule} (h : ∀ r ∈ L, Tape.ruleB r = true) : (Tape.textR L).length ≤ 14 * L.length := by
  induction L with
  | nil => simp [Tape.textR]
  | cons r L ih =>
    have h1 := body_len (rule_fits (h r (by simp)))
    have h2 := ih (fun q hq => h q (List.mem_cons_of_mem _ hq))
    rw [Tape.text_cons, List.length_append, List.length_cons, List.length_cons]
    omega
theorem read_write {L : List Rule} (h : faultR L = (0, 0)) : readT (Tape.textR L) = (L, (0, 0)) := by
  obtain ⟨h1, h2⟩ := rules_ok h
  have h3 := text_le h2
  unfold readT
  rw [if_neg (by omega), Tape.read_text L 0 h2]
  simp only
  rw [if_pos h]
theorem write_read {t : List Int} {L : List Rule} (h : readT t = (L, (0, 0))) : faultR L = (0, 0) ∧ Tape.textR L = t := by
  unfold readT at h
  split at h
  · simp at h
  · split at h
    · simp at h
    · rename_i M hM
      split at h
      · rename_i hf
        injection h with h1 _
        rw [← h1]
        exact ⟨hf, Tape.text_read hM⟩
      · rename_i hf
        injection h with _ h2
        exact absurd h2 hf
theorem readT_code (t : List Int) : (readT t).2 = (0, 0) ∨ ((readT t).2.1 ≠ 0 ∧ (readT t).1 = []) := by
  unfold readT
  split
  · right; exact ⟨by decide, rfl⟩
  · split
    · right; exact ⟨by show (1 : Int) ≠ 0; decide, rfl⟩
    · split
      · left; rfl
      · rename_i hf
        right; exact ⟨faultR_code hf, rfl⟩
theorem tx_write : writeT thr = (txC, (0, 0)) := by unfold writeT; rw [if_pos tx_fault, tx_text]
theorem tx_read : readT txC = (thr, (0, 0)) := by rw [← tx_text]; exact read_write tx_fault
theorem tx_byt : Byt txC := by intro x hx; unfold txC at hx; simp at hx; omega
theorem three_c (w : World) : Calls Tryd.prog 57 #[] w fun e w' => e = .returned (.slice (some ⟨w.heap.size, 0, none⟩) 3 3) ∧ w' = w.alloc (.cells (rulesV thr).toArray 88) := by
  go_enter Tryd.func57, Tryd.ntmps57
  go_wp2
  go_ret
  exact ⟨rfl, rfl⟩
/-- A variable of the state's type. -/
structure VarT (w : World) (g : Nat) (cs : Array Value) (s : Ts) : Prop where
  g : w.heap[g]? = some (.cells cs 54 (0, 0))
  st : TsIs w cs s
theorem VarT.ext {w w' : World} {g : Nat} {cs : Array Value} {s : Ts} (h : VarT w g cs s) (x : Ext w w') : VarT w' g cs s := ⟨ext_heap x h.g, h.st.ext x⟩
def asgWT (w1 : World) (cs' : Array Value) (c i : Int) : World := ((((w1.alloc (.cells zeroTs 54)).alloc (.cells #[.int .i64 0, .int .i64 0] 28)).setRow w1.heap.size cs').setRow (w1.heap.size + 1) #[.int .i64 c, .int .i64 i])
structure AsgT (w1 W : World) (cs' : Array Value) (s : Ts) (c i : Int) : Prop where
  v : VarT W w1.heap.size cs' s
  f : W.heap[w1.heap.size + 1]? = some (.cells #[.int .i64 c, .int .i64 i] 28 (0, 0))
  x : Ext w1 W
theorem asgT_mk (w1 : World) {cs' : Array Value} {s : Ts} (h : TsIs w1 cs' s) (c i : Int) : AsgT w1 (asgWT w1 cs' c i) cs' s c i := by
  have hx : Ext w1 (asgWT w1 cs' c i) := (((((Ext.refl w1).alloc _).alloc _).setRow (Nat.le_refl _) _).setRow (by omega) _)
  have hh := stepT_heap w1 cs' c i (.cells #[.int .i64 0, .int .i64 0] 28)
  exact ⟨⟨hh.1, h.ext hx⟩, hh.2, hx⟩
theorem rls_block {w : World} {g : Nat} {L : List Rule} {t : TypeId} (h : w.heap[g]? = some (.cells (rulesV L).toArray t (0, 0))) : Rls w (some ⟨g, 0, none⟩) L := by
  intro i u hu
  refine ⟨_, rfl, ?_⟩
  rw [add_off, Nat.zero_add, blk_cell h]
  simpa using hu
theorem thr_wf : ∀ r ∈ thr, RuleWf r := fun r hr => fits_wf (rule_fits ((rules_ok tx_fault).2 r hr))
end Go.Proofs.YtbaahbpianingaaDoor
namespace Go.Proofs.YtbaahbpianingaaDoor
open Go Go.RowKit Go.WideShapes Go.ChangeShapes
section
variable {H : Type} {enc : TypeId × Value → H} {P : Program}
/-- The arguments read behind the call as they read before. -/
theorem trodAll_stay (hl : laidOutB P = true) {W W' : World} (hb : Below W.heap.size W W') (sp : Nat → Bool) : ∀ {ts : List TypeId} {vs : List Value} {ds : List (DataW H)} {ps : List MemPlace},
    (∀ t ∈ ts, P.readableRec t = true ∧ t < P.types.size) → DataW.TrodAll enc P W 0 (fun _ => true) true ts vs ds ps → (∀ x ∈ ps, x.block < W.heap.size) → (∀ x ∈ ps, sp x.block = true) → DataW.TrodAll enc P W' 0 sp true ts vs ds ps
  | [], vs, ds, ps, _, h, _, _ => by
    obtain ⟨rfl, rfl, rfl⟩ := trodAll_nil h
    exact trodAll_mk0
  | t :: ts, vs, ds, ps, ht, h, hlt, hsp => by
    obtain ⟨v, vs', d, ds', p, q, rfl, rfl, rfl, h0, hr⟩ := trodAll_cons h
    refine trodAll_cons_mk (WideElems.Trod_stays hl (ht t (by simp)).1 (ht t (by simp)).2 h0 (fun x hx => hb.same (hlt x (by simp [hx]))) fun x hx => hsp x (by simp [hx])) ?_
    exact trodAll_stay hl hb sp (fun t' h' => ht t' (by simp [h'])) hr (fun x hx => hlt x (by simp [hx])) fun x hx => hsp x (by simp [hx])
/-- A law that answers true and leaves all that was there. -/
theorem law_post {f : Func} {s : ChangeSpec} {W W' : World} {args : Array Value} {ds gs : List (DataW H)} {before : List MemPlace} {tb : TypeId} {fresh handsOn again : Bool}
    (hl : laidOutB P = true) (hps : ∀ t ∈ f.params.toList, P.readableRec t = true ∧ t < P.types.size) (hrt : f.resultTypes = #[tb]) (htb : P.underlying tb = some .bool)
    (hvars : s.vars = []) (hfn : (s.fn H ds) = { results := [.lit (.bool true)], args := ds })
    (hW : DataW.Whole enc P f.params.toList s.vars false W args.toList ds gs before) (hb : Below W.heap.size W W') :
    s.post enc P f false fresh handsOn again W args (.bool true) W' := by
  have hlt : ∀ p ∈ before, p.block < W.heap.size := fun p hp => hW.lt p hp
  have hW' := hW
  obtain ⟨pa, pv, hA, hV, hpp, hz, hn⟩ := hW
  rw [hvars] at hV
  obtain ⟨hg, hpv⟩ := trodVars_none hV
  subst hg
  subst hpv
  rw [List.append_nil] at hpp
  subst hpp
  have hold : ∀ p ∈ before, (fun b => decide (b < W.heap.size)) p.block = true := fun p hp => by simpa using hlt p hp
  have hres : ∀ (b : Nat) (sp : Nat → Bool) (hd : Bool), DataW.TrodAll enc P W' b sp hd f.resultTypes.toList ((Value.bool true).resultList f.resultTypes.size) (s.fn H (ds ++ [])).results [] := fun b sp hd => by
    rw [hrt, List.append_nil, hfn]
    exact trodAll_cons_mk (shut_bool htb _) trodAll_mk0
  have hargs : ∀ sp : Nat → Bool, (∀ p ∈ before, sp p.block = true) → DataW.TrodAll enc P W' 0 sp true f.params.toList args.toList (s.fn H (ds ++ [])).args before := fun sp hsp => by
    rw [List.append_nil, hfn]
    exact trodAll_stay hl hb sp hps hA hlt hsp
  have hvv : ∀ sp : Nat → Bool, DataW.TrodVars enc P W' sp s.vars (s.fn H (ds ++ [])).vars [] := fun sp => by
    rw [hvars, List.append_nil, hfn]
    exact rfl
  refine ⟨ds, [], before, [], before, [], hW', hres _ _ _, hargs _ hold, hvv _, World.keptBut_mono (fun p hp => ⟨hp, Or.inr (by simpa using hp)⟩) (hb.frame (· ∈ before)), fun _ => ?_⟩
  refine ⟨?_, _, _, ([] ++ before) ++ [], ⟨[] ++ before, [], trodAll_append (hargs _ (fun _ _ => rfl)) (hres _ _ _), hvv _, rfl, ?_, ?_⟩, ?_⟩
  · intro j t r hj hr
    rw [hrt] at hj hr
    match j, hj, hr with
    | 0, hj, hr =>
      simp [Value.resultList] at hj hr
      subst hj; subst hr
      exact okWide_bool_mk htb _
  · intro b off hp
    have hin : MemPlace.cell b off ∈ before := by simpa using hp
    rw [hb.frozen (hlt _ hin)]
    exact hz b off hin
  · intro ha
    cases ha
  · intro p hp _
    simpa using hp
/-- An argument (or a field) that is a slice of integers. -/
theorem slAt_trod {w : World} {base : Nat} {spare : Nat → Bool} {held : Bool} {t e : TypeId} {k : IntKind} {fuel : Nat} {v : Value} {x : DataW H × List MemPlace} (ht : P.underlying t = some (.slice e)) (he : P.underlying e = some (.int k)) (hc : P.cellsOf e = 1)
    (h : DataW.trod enc P w base spare held fuel t [v] = some x) : ∃ l, SlAt w k (some v) l ∧ ∀ n ∈ l, (Lit.int k n).wf = true := by
  rcases open_ints ht he hc h with ⟨hv, _⟩ | ⟨a, len, cap, zs, hv, _, hlc, hcm, hz, _, hcell, hwf⟩
  · injection hv with hv
    subst hv
    exact ⟨[], ⟨none, 0, rfl, Nat.le_refl _, by simp [maxLen], fun _ => rfl, SlC.nil _ _⟩, fun n hn => by simp at hn⟩
  · injection hv with hv
    subst hv
    have hzl : len ≤ zs.length := by rw [hz]; split <;> omega
    refine ⟨zs.take len, ⟨some a, cap, by rw [List.length_take, Nat.min_eq_left hzl], by rw [List.length_take]; omega, hcm, (fun h => by cases h), ?_⟩, fun n hn => hwf n (List.mem_of_mem_take hn)⟩
    refine Sl.mk fun i y hy => ⟨a, rfl, ?_⟩
    rw [List.getElem?_take] at hy
    split at hy
    · have hl := (List.getElem?_eq_some_iff.1 hy).1
      rw [hcell i hl]
      simp [hy]
    · cases hy
end
theorem byt_wf {l : List Int} (h : ∀ n ∈ l, (Lit.int .u8 n).wf = true) : Byt l := fun x hx => by
  have := h x hx
  simp [Lit.wf, IntKind.min, IntKind.max, IntKind.signed, IntKind.bits] at this
  omega
theorem i64_wf {n : Int} (h : (Lit.int .i64 n).wf = true) : I64 n := by
  simp [Lit.wf, IntKind.min, IntKind.max, IntKind.signed, IntKind.bits] at h
  exact ⟨by omega, by omega⟩
end Go.Proofs.YtbaahbpianingaaDoor
namespace Go.Proofs.YtbaahbpianingaaDoor
open Go Go.RowKit Go.WideShapes Go.ChangeShapes
open Acc (Dk)
set_option maxRecDepth 100000
theorem cellsD : Tryd.prog.cellsOf 25 = 108 := by kernel_rfl
theorem cells22 : Tryd.prog.cellsOf 22 = 100 := by kernel_rfl
theorem cellsS : Tryd.prog.cellsOf 23 = 1 := by kernel_rfl
theorem cells5 : Tryd.prog.cellsOf 5 = 1 := by kernel_rfl
theorem cells3 : Tryd.prog.cellsOf 3 = 1 := by kernel_rfl
theorem cells4 : Tryd.prog.cellsOf 4 = 1 := by kernel_rfl
theorem take_one {cs : List Value} {i : Nat} (h : i < cs.length) : (cs.drop i).take 1 = [cs[i]] := by
  rw [List.drop_eq_getElem_cons h]; rfl
section
variable {H : Type} {enc : TypeId × Value → H}
theorem open_state {W : World} {base : Nat} {sp : Nat → Bool} {hd : Bool} {r : Reach} {b0 : Nat} {v : Value} {d : DataW H} {p : List MemPlace} (hv : Value.okWide Tryd.prog W r b0 25 v) (h : DataW.Trod enc Tryd.prog W base sp hd 25 v d p) :
    ∃ cs s, v = .agg cs ∧ DkIs W cs s := by
  obtain ⟨cs, rfl, hsz⟩ := okWide_struct Tryd.underlying25 hv
  rw [cellsD] at hsz
  obtain ⟨fuel, hf⟩ := h
  obtain ⟨xs, n, _, _, _, hlen, hg⟩ := DataW.trod_struct Tryd.underlying25 hf
  have hl : cs.toList.length = 108 := by simpa using hsz
  have hcl : (Value.agg cs).cells.toList = cs.toList := by simp [Value.cells]
  rw [hcl] at hg
  have get : ∀ (j i : Nat) (hj : j < 108) (t : TypeId), Tryd.prog.cellsOf t = 1 → DataW.trod enc Tryd.prog W base sp hd n t ((cs.toList.drop j).take (Tryd.prog.cellsOf t)) = xs[i]? → i < 9 → ∃ x, DataW.trod enc Tryd.prog W base sp hd n t [cs[j]'(by omega)] = some x := by
    intro j i hj t hc he hi
    rw [hc, take_one (by omega), List.getElem?_eq_getElem (by rw [hlen]; exact hi)] at he
    exact ⟨_, by simpa using he⟩
  obtain ⟨x1, h1⟩ := get 100 1 (by omega) 3 cells3 (hg 1 _ rfl) (by omega)
  obtain ⟨x2, h2⟩ := get 101 2 (by omega) 3 cells3 (hg 2 _ rfl) (by omega)
  obtain ⟨x3, h3⟩ := get 102 3 (by omega) 3 cells3 (hg 3 _ rfl) (by omega)
  obtain ⟨x4, h4⟩ := get 103 4 (by omega) 3 cells3 (hg 4 _ rfl) (by omega)
  obtain ⟨x5, h5⟩ := get 104 5 (by omega) 4 cells4 (hg 5 _ rfl) (by omega)
  obtain ⟨x6, h6⟩ := get 105 6 (by omega) 23 cellsS (hg 6 _ rfl) (by omega)
  obtain ⟨x7, h7⟩ := get 106 7 (by omega) 23 cellsS (hg 7 _ rfl) (by omega)
  obtain ⟨x8, h8⟩ := get 107 8 (by omega) 3 cells3 (hg 8 _ rfl) (by omega)
  have hm : DataW.trod enc Tryd.prog W base sp hd n 22 ((cs.toList.drop 0).take (Tryd.prog.cellsOf 22)) = xs[0]? := hg 0 _ rfl
  rw [List.getElem?_eq_getElem (by rw [hlen]; decide)] at hm
  obtain ⟨ms, k, _, _, _, hml, hmg⟩ := DataW.trod_array Tryd.underlying22 hm
  have mem : ∀ i, i < 100 → ∃ x : Int, cs[i]? = some (.int .i64 x) ∧ (Lit.int .i64 x).wf = true := by
    intro i hi
    have he := hmg i hi
    rw [cells3, cells22, Nat.mul_one, List.getElem?_eq_getElem (by rw [hml]; exact hi)] at he
    have ht : (((cs.toList.drop 0).take 100).drop i).take 1 = [cs[i]'(by omega)] := by
      rw [take_one (by simp [hl]; omega)]
      simp
    have he' : DataW.trod enc Tryd.prog W base sp hd k 3 ((((cs.toList.drop 0).take 100).drop i).take 1) = some (ms[i]'(by omega)) := he
    rw [ht] at he'
    obtain ⟨x, hx, _, hw⟩ := DataW.trod_int Tryd.underlying3 he'
    injection hx with hx
    exact ⟨x, by rw [Array.getElem?_eq_getElem (by omega), hx], hw⟩
  obtain ⟨l6, s6, w6⟩ := slAt_trod Tryd.underlying23 Tryd.underlying5 cells5 h6
  obtain ⟨l7, s7, w7⟩ := slAt_trod Tryd.underlying23 Tryd.underlying5 cells5 h7
  obtain ⟨n1, e1, _, w1⟩ := DataW.trod_int Tryd.underlying3 h1
  obtain ⟨n2, e2, _, w2⟩ := DataW.trod_int Tryd.underlying3 h2
  obtain ⟨n3, e3, _, w3⟩ := DataW.trod_int Tryd.underlying3 h3
  obtain ⟨n4, e4, _, w4⟩ := DataW.trod_int Tryd.underlying3 h4
  obtain ⟨n5, e5, _⟩ := DataW.trod_bool Tryd.underlying4 h5
  obtain ⟨n8, e8, _, w8⟩ := DataW.trod_int Tryd.underlying3 h8
  injection e1 with e1
  injection e2 with e2
  injection e3 with e3
  injection e4 with e4
  injection e5 with e5
  injection e8 with e8
  have hf : ∃ f : Nat → Int, ∀ i, i < 100 → cs[i]? = some (.int .i64 (f i)) ∧ (Lit.int .i64 (f i)).wf = true :=
    ⟨fun i => if hi : i < 100 then (mem i hi).choose else 0, fun i hi => by simp only [hi, dif_pos]; exact (mem i hi).choose_spec⟩
  obtain ⟨f, hf⟩ := hf
  have ca : ∀ (i : Nat) (hi : i < 108) (v : Value), cs[i]'(by omega) = v → cs[i]? = some v := fun i hi v h => by rw [Array.getElem?_eq_getElem (by omega), h]
  refine ⟨cs, ⟨(List.range 100).map f, n1, n2, n3, n4, n5, l6, l7, n8⟩, rfl, hsz, ?_, ca 100 (by omega) _ e1, ca 101 (by omega) _ e2, ca 102 (by omega) _ e3, ca 103 (by omega) _ e4, ca 104 (by omega) _ e5, ?_, ?_, ca 107 (by omega) _ e8, by simp, ?_, i64_wf w1, i64_wf w2, i64_wf w3, i64_wf w4, byt_wf w6, byt_wf w7, i64_wf w8⟩
  · intro i hi
    rw [(hf i hi).1]
    simp [hi]
  · rw [Array.getElem?_eq_getElem (by omega)]; exact s6
  · rw [Array.getElem?_eq_getElem (by omega)]; exact s7
  · intro x hx
    obtain ⟨i, hi, rfl⟩ := List.mem_map.1 hx
    exact i64_wf (hf i (by simpa using hi)).2
end
end Go.Proofs.YtbaahbpianingaaDoor
namespace Go.Proofs.YtbaahbpianingaaDoor
open Go Go.RowKit Go.WideShapes Go.ChangeShapes
open Tape (Rule Ts)
set_option maxRecDepth 100000
theorem cellsR : Tryd.prog.cellsOf 88 = 5 := by kernel_rfl
theorem cellsL : Tryd.prog.cellsOf 52 = 1 := by kernel_rfl
theorem cellsI : Tryd.prog.cellsOf 26 = 1 := by kernel_rfl
theorem cellsQ : Tryd.prog.cellsOf 54 = 5 := by kernel_rfl
section
variable {H : Type} {enc : TypeId × Value → H}
theorem rule_trod {W : World} {base fuel : Nat} {sp : Nat → Bool} {hd : Bool} {cs : List Value} {x : DataW H × List MemPlace} {b o : Nat} (h : DataW.trod enc Tryd.prog W base sp hd fuel 88 cs = some x) (hc : ∀ j, j < 5 → W.cell? ⟨b, o + j, none⟩ = cs[j]?) : ∃ r, RuleAt W b o r ∧ RuleWf r := by
  obtain ⟨xs, n, _, _, hl, hlen, hg⟩ := DataW.trod_struct Tryd.underlying88 h
  rw [cellsR] at hl
  have get : ∀ (j : Nat) (hj : j < 5) (t : TypeId), Tryd.prog.cellsOf t = 1 → DataW.trod enc Tryd.prog W base sp hd n t ((cs.drop j).take (Tryd.prog.cellsOf t)) = xs[j]? → ∃ x, DataW.trod enc Tryd.prog W base sp hd n t [cs[j]'(by omega)] = some x := by
    intro j hj t hc he
    rw [hc, take_one (by omega), List.getElem?_eq_getElem (by rw [hlen]; exact hj)] at he
    exact ⟨_, by simpa using he⟩
  obtain ⟨x0, h0⟩ := get 0 (by omega) 3 cells3 (hg 0 _ rfl)
  obtain ⟨x1, h1⟩ := get 1 (by omega) 3 cells3 (hg 1 _ rfl)
  obtain ⟨x2, h2⟩ := get 2 (by omega) 3 cells3 (hg 2 _ rfl)
  obtain ⟨x3, h3⟩ := get 3 (by omega) 3 cells3 (hg 3 _ rfl)
  obtain ⟨x4, h4⟩ := get 4 (by omega) 3 cells3 (hg 4 _ rfl)
  obtain ⟨n0, e0, _, w0⟩ := DataW.trod_int Tryd.underlying3 h0
  obtain ⟨n1, e1, _, w1⟩ := DataW.trod_int Tryd.underlying3 h1
  obtain ⟨n2, e2, _, w2⟩ := DataW.trod_int Tryd.underlying3 h2
  obtain ⟨n3, e3, _, w3⟩ := DataW.trod_int Tryd.underlying3 h3
  obtain ⟨n4, e4, _, w4⟩ := DataW.trod_int Tryd.underlying3 h4
  injection e0 with e0
  injection e1 with e1
  injection e2 with e2
  injection e3 with e3
  injection e4 with e4
  have c0 := hc 0 (by omega)
  have c1 := hc 1 (by omega)
  have c2 := hc 2 (by omega)
  have c3 := hc 3 (by omega)
  have c4 := hc 4 (by omega)
  rw [List.getElem?_eq_getElem (by omega)] at c0 c1 c2 c3 c4
  rw [e0] at c0
  rw [e1] at c1
  rw [e2] at c2
  rw [e3] at c3
  rw [e4] at c4
  exact ⟨⟨n0, n1, n2, n3, n4⟩, ⟨c0, c1, c2, c3, c4⟩, ⟨i64_wf w0, i64_wf w1, i64_wf w2, i64_wf w3, i64_wf w4⟩⟩
theorem rls_mk {W : World} {b o : Nat} {L : List Rule} (h : ∀ (i : Nat) (r : Rule), L[i]? = some r → RuleAt W b (o + i * 5) r) : Rls W (some ⟨b, o, none⟩) L := by
  intro j u hu
  have hj := (List.getElem?_eq_some_iff.1 hu).1
  rw [rulesV_len] at hj
  have hi : j / 5 < L.length := by omega
  have hr : L[j / 5]? = some L[j / 5] := List.getElem?_eq_getElem hi
  have hv := rulesV_get L (j / 5) (j % 5) _ hr (by omega)
  rw [show j / 5 * 5 + j % 5 = j by omega, hu] at hv
  have := (h _ _ hr).cells (j % 5) u hv.symm
  refine ⟨_, rfl, ?_⟩
  rw [add_off]
  rw [show o + j / 5 * 5 + j % 5 = o + j by omega] at this
  exact this
theorem open_rules {W : World} {base fuel : Nat} {sp : Nat → Bool} {hd : Bool} {cs : List Value} {x : DataW H × List MemPlace} (h : DataW.trod enc Tryd.prog W base sp hd fuel 52 cs = some x) :
    ∃ A L c, cs = [.slice A L.length c] ∧ L.length ≤ c ∧ c ≤ maxLen ∧ (A = none → c = 0) ∧ Rls W A L ∧ ∀ r ∈ L, RuleWf r := by
  rcases DataW.trod_slice Tryd.underlying52 h with ⟨rfl, _⟩ | ⟨a, len, cap, elems, rest, n, _, rfl, _, hb, hl, hm, hlen, hel, _, _⟩
  · exact ⟨none, [], 0, rfl, Nat.le_refl _, by simp [maxLen], fun _ => rfl, SlC.nil _ _, fun r hr => by simp at hr⟩
  · have hspot : 0 < len → ∃ b o, a = ⟨b, o, none⟩ := by
      intro hi
      have he := hel 0 hi
      rw [cellsR, List.getElem?_eq_getElem (by omega)] at he
      obtain ⟨cs', hc, ht⟩ := Option.bind_eq_some_iff.1 he
      obtain ⟨_, hcl, hat⟩ := World.cells?_some hc
      have h0 := hat 0 (by omega)
      rw [List.getElem?_eq_getElem (by omega)] at h0
      obtain ⟨b, o, s⟩ := a
      cases s with
      | none => exact ⟨b, o, rfl⟩
      | some s => simp [Addr.add, World.cell?] at h0; split at h0 <;> simp at h0
    have each : ∀ i, i < len → ∃ r, (∃ b o, a = ⟨b, o, none⟩ ∧ RuleAt W b (o + i * 5) r) ∧ RuleWf r := by
      intro i hi
      have he := hel i hi
      rw [cellsR, List.getElem?_eq_getElem (by omega)] at he
      obtain ⟨cs', hc, ht⟩ := Option.bind_eq_some_iff.1 he
      obtain ⟨_, hcl, hat⟩ := World.cells?_some hc
      obtain ⟨b, o, rfl⟩ := hspot (by omega)
      obtain ⟨r, hr, hw⟩ := rule_trod (b := b) (o := o + i * 5) ht (fun j hj => by
        have := hat j hj
        rw [add_off, add_off] at this
        exact this)
      exact ⟨r, ⟨b, o, rfl, hr⟩, hw⟩
    have hf : ∃ f : Nat → Rule, ∀ i, i < len → (∃ b o, a = ⟨b, o, none⟩ ∧ RuleAt W b (o + i * 5) (f i)) ∧ RuleWf (f i) :=
      ⟨fun i => if hi : i < len then (each i hi).choose else ⟨0, 0, 0, 0, 0⟩, fun i hi => by simp only [hi, dif_pos]; exact (each i hi).choose_spec⟩
    obtain ⟨f, hf⟩ := hf
    refine ⟨some a, (List.range len).map f, cap, by simp, by simpa using hl, hm, (fun q => by cases q), ?_, ?_⟩
    · by_cases h0 : len = 0
      · subst h0; exact SlC.nil _ _
      · obtain ⟨b, o, rfl⟩ := hspot (by omega)
        refine rls_mk fun i r hr => ?_
        have hi : i < len := by have := (List.getElem?_eq_some_iff.1 hr).1; simpa using this
        have : r = f i := by simpa [hi] using hr.symm
        subst this
        obtain ⟨⟨b', o', e, h2⟩, _⟩ := hf i hi
        cases e
        exact h2
    · intro r hr
      obtain ⟨i, hi, rfl⟩ := List.mem_map.1 hr
      exact (hf i (by simpa using hi)).2
theorem open_tape {W : World} {base : Nat} {sp : Nat → Bool} {hd : Bool} {r : Reach} {b0 : Nat} {v : Value} {d : DataW H} {p : List MemPlace} (hv : Value.okWide Tryd.prog W r b0 54 v) (h : DataW.Trod enc Tryd.prog W base sp hd 54 v d p) :
    ∃ cs s, v = .agg cs ∧ TsIs W cs s := by
  obtain ⟨cs, rfl, hsz⟩ := okWide_struct Tryd.underlying54 hv
  rw [cellsQ] at hsz
  obtain ⟨fuel, hf⟩ := h
  obtain ⟨xs, n, _, _, _, hlen, hg⟩ := DataW.trod_struct Tryd.underlying54 hf
  have hl : cs.toList.length = 5 := by simpa using hsz
  have hcl : (Value.agg cs).cells.toList = cs.toList := by simp [Value.cells]
  rw [hcl] at hg
  have get : ∀ (j : Nat) (hj : j < 5) (t : TypeId), Tryd.prog.cellsOf t = 1 → DataW.trod enc Tryd.prog W base sp hd n t ((cs.toList.drop j).take (Tryd.prog.cellsOf t)) = xs[j]? → ∃ x, DataW.trod enc Tryd.prog W base sp hd n t [cs[j]'(by omega)] = some x := by
    intro j hj t hc he
    rw [hc, take_one (by omega), List.getElem?_eq_getElem (by rw [hlen]; exact hj)] at he
    exact ⟨_, by simpa using he⟩
  obtain ⟨x0, h0⟩ := get 0 (by omega) 52 cellsL (hg 0 _ rfl)
  obtain ⟨x1, h1⟩ := get 1 (by omega) 26 cellsI (hg 1 _ rfl)
  obtain ⟨x2, h2⟩ := get 2 (by omega) 3 cells3 (hg 2 _ rfl)
  obtain ⟨x3, h3⟩ := get 3 (by omega) 3 cells3 (hg 3 _ rfl)
  obtain ⟨x4, h4⟩ := get 4 (by omega) 3 cells3 (hg 4 _ rfl)
  obtain ⟨A, L, c, e0, l1, l2, l3, l4, l5⟩ := open_rules h0
  obtain ⟨l, ⟨B, d1, e1, s1, s2, s3, s4⟩, lw⟩ := slAt_trod Tryd.underlying26 Tryd.underlying3 cells3 h1
  obtain ⟨n2, e2, _, w2⟩ := DataW.trod_int Tryd.underlying3 h2
  obtain ⟨n3, e3, _, w3⟩ := DataW.trod_int Tryd.underlying3 h3
  obtain ⟨n4, e4, _, w4⟩ := DataW.trod_int Tryd.underlying3 h4
  injection e0 with e0
  injection e1 with e1
  injection e2 with e2
  injection e3 with e3
  injection e4 with e4
  refine ⟨cs, ⟨L, l, n2, n3, n4⟩, rfl, hsz, ⟨A, c, ?_, l1, l2, l3, l4⟩, ⟨B, d1, ?_, s1, s2, s3, s4⟩, ?_, ?_, ?_, ⟨l5, fun x hx => i64_wf (lw x hx), i64_wf w2, i64_wf w3, i64_wf w4⟩⟩
  · rw [Array.getElem?_eq_getElem (by omega), e0]
  · rw [Array.getElem?_eq_getElem (by omega), e1]
  · rw [Array.getElem?_eq_getElem (by omega), e2]
  · rw [Array.getElem?_eq_getElem (by omega), e3]
  · rw [Array.getElem?_eq_getElem (by omega), e4]
end
end Go.Proofs.YtbaahbpianingaaDoor
/- What the claims of the accumulator machine share: the table of powers of ten, a world and arguments that meet the rows. -/
namespace Go.Proofs.YtbaahbpianingaaDoor
open Go Go.ChangeShapes Go.WideShapes Go.ChangeAt Go.RowKit
set_option maxRecDepth 100000
theorem own : ownKnob Tryd.prog.godebug = none := by kernel_rfl
theorem laidOut : laidOutB Tryd.prog = true := by kernel_rfl
theorem gPow : Tryd.prog.globalNamed "internal/strconv.uint64pow10" = some 1 := by kernel_rfl
theorem gPowType : ∃ t e, (Tryd.prog.globals[1]?).map (·.type) = some t ∧ Tryd.prog.underlying t = some (.array 20 e) ∧ Tryd.prog.underlying e = some (.int .u64) ∧ Tryd.prog.cellsOf e = 1 ∧ Tryd.prog.cellsOf t = 20 := ⟨_, _, rfl, rfl, rfl, by kernel_rfl, by kernel_rfl⟩
def laidL : List (String × DataW Unit) := [("math/bits.deBruijn32tab", Rows.laid_math_bits_deBruijn32tab), ("math/bits.deBruijn64tab", Rows.laid_math_bits_deBruijn64tab), ("internal/strconv.uint64pow10", Rows.laid_internal_strconv_uint64pow10)]
theorem powTab : (Rows.laid_internal_strconv_uint64pow10 : DataW Unit) = Lib.tabData .u64 Lib.pow10Tab := by kernel_rfl
theorem tabs_of {W : World} (h : laidMetH Tryd.prog laidL W) : Tabs W := by
  have h' : laidMet Tryd.prog laidL W := h
  have h2 : laidMet Tryd.prog [("internal/strconv.uint64pow10", Rows.laid_internal_strconv_uint64pow10)] W := h'.filter (fun x => x.1 == "internal/strconv.uint64pow10")
  rw [powTab] at h2
  obtain ⟨t, e, t1, t2, t3, t4, t5⟩ := gPowType
  have a : Lib.TabIs Tryd.prog W "internal/strconv.uint64pow10" .u64 Lib.pow10Tab := Lib.tabIs_of_head gPow t1 t2 t3 t4 t5 h2
  intro w' hb
  unfold Lib.TabIs World.var? at a ⊢
  simp only [gPow, Option.bind_some] at a ⊢
  have hlt : 1 < W.heap.size := by
    rcases Nat.lt_or_ge 1 W.heap.size with h' | h'
    · exact h'
    · rw [Array.getElem?_eq_none h'] at a; simp at a
  rw [hb.block 1 (by decide)]
  exact a
def d32V : Array Value := (([0, 1, 28, 2, 29, 14, 24, 3, 30, 22, 20, 15, 25, 17, 4, 8, 31, 27, 13, 23, 21, 19, 16, 7, 26, 12, 18, 6, 11, 5, 10, 9] : List Int).map (Value.int .u8)).toArray
def d64V : Array Value := (([0, 1, 56, 2, 57, 49, 28, 3, 61, 58, 42, 50, 38, 29, 17, 4, 62, 47, 59, 36, 45, 43, 51, 22, 53, 39, 33, 30, 24, 18, 12, 5, 63, 55, 48, 27, 60, 41, 37, 16, 46, 35, 44, 21, 52, 32, 23, 11, 54, 26, 40, 15, 34, 20, 31, 10, 25, 14, 19, 9, 13, 8, 7, 6] : List Int).map (Value.int .u8)).toArray
def powV : Array Value := (([1, 10, 100, 1000, 10000, 100000, 1000000, 10000000, 100000000, 1000000000, 10000000000, 100000000000, 1000000000000, 10000000000000, 100000000000000, 1000000000000000, 10000000000000000, 100000000000000000, 1000000000000000000, 10000000000000000000] : List Int).map (Value.int .u64)).toArray
def putRow (cs : Array Value) : Obj → Obj
  | .cells _ t frozen => .cells cs t frozen
  | o => o
noncomputable def laidWorld (os : Os) : World :=
  { World.holding Tryd.prog os ⟨#[], #[], []⟩ with heap := (((World.holding Tryd.prog os ⟨#[], #[], []⟩).heap.modify 1 (putRow powV)).modify 4 (putRow d32V)).modify 5 (putRow d64V) }
def zeroLitSt : Value := .agg #[.int .i64 0, .int .i64 0, .int .i64 0, .int .i64 0, .int .i64 0, .int .i64 0, .int .i64 0, .int .i64 0, .int .i64 0, .int .i64 0, .int .i64 0, .int .i64 0, .int .i64 0, .int .i64 0, .int .i64 0, .int .i64 0, .int .i64 0, .int .i64 0, .int .i64 0, .int .i64 0, .int .i64 0, .int .i64 0, .int .i64 0, .int .i64 0, .int .i64 0, .int .i64 0, .int .i64 0, .int .i64 0, .int .i64 0, .int .i64 0, .int .i64 0, .int .i64 0, .int .i64 0, .int .i64 0, .int .i64 0, .int .i64 0, .int .i64 0, .int .i64 0, .int .i64 0, .int .i64 0, .int .i64 0, .int .i64 0, .int .i64 0, .int .i64 0, .int .i64 0, .int .i64 0, .int .i64 0, .int .i64 0, .int .i64 0, .int .i64 0, .int .i64 0, .int .i64 0, .int .i64 0, .int .i64 0, .int .i64 0, .int .i64 0, .int .i64 0, .int .i64 0, .int .i64 0, .int .i64 0, .int .i64 0, .int .i64 0, .int .i64 0, .int .i64 0, .int .i64 0, .int .i64 0, .int .i64 0, .int .i64 0, .int .i64 0, .int .i64 0, .int .i64 0, .int .i64 0, .int .i64 0, .int .i64 0, .int .i64 0, .int .i64 0, .int .i64 0, .int .i64 0, .int .i64 0, .int .i64 0, .int .i64 0, .int .i64 0, .int .i64 0, .int .i64 0, .int .i64 0, .int .i64 0, .int .i64 0, .int .i64 0, .int .i64 0, .int .i64 0, .int .i64 0, .int .i64 0, .int .i64 0, .int .i64 0, .int .i64 0, .int .i64 0, .int .i64 0, .int .i64 0, .int .i64 0, .int .i64 0, .int .i64 0, .int .i64 0, .int .i64 0, .int .i64 0, .bool false, .slice none 0 0, .slice none 0 0, .int .i64 0]
section
variable {H : Type} {enc : TypeId × Value → H} {W : World} {r : Reach} {b0 base : Nat} {sp : Nat → Bool} {held : Bool} {v : Value} {d : DataW H} {ps : List MemPlace}
theorem arg_ints (hval : Value.okWide Tryd.prog W r b0 26 v) (hd : DataW.Trod enc Tryd.prog W base sp held 26 v d ps) : ∃ A l c, v = .slice A l.length c ∧ l.length ≤ maxLen ∧ Sl W .i64 A l := by
  obtain ⟨a, len, cap, rfl⟩ := okWide_slice Tryd.underlying26 hval
  obtain ⟨fuel, hf⟩ := hd
  have hf' : DataW.trod enc Tryd.prog W base sp held fuel 26 [Value.slice a len cap] = some (d, ps) := hf
  obtain ⟨l, ⟨A, c, h1, h2, h3, _, h4⟩, _⟩ := slAt_trod Tryd.underlying26 Tryd.underlying3 cells3 hf'
  injection h1 with h1
  exact ⟨A, l, c, h1, Nat.le_trans h2 h3, h4⟩
end
def zeroData {H : Type} : DataW H := .agg [.agg (List.replicate 100 (.lit (.int .i64 0))), .lit (.int .i64 0), .lit (.int .i64 0), .lit (.int .i64 0), .lit (.int .i64 0), .lit (.bool false), .nil, .nil, .lit (.int .i64 0)]
end Go.Proofs.YtbaahbpianingaaDoor
