import Derived.Test.YtbaahbpianingaaGreatDoorMg3
import Derived.Laws.ResultCell
import Derived.Deep.DeepCutAuto
import Derived.Test.YtbaahbpianingaaGreatDoorMg2
import Derived.Deep.RegionHeld3
import Derived.Laws.CopyOwn
import Derived.Test.YtbaahbpianingaaGreatDoorMg1
import Derived.RegionTactic
import Derived.Lib.ConvBytes
import Derived.Lib.AtoiErrMem
import Derived.Deep.RegionLaw
namespace Go.Proofs.YtbaahbpianingaaGreatDoor
open Go Go.Proofs Go.RowKit
open Acc (Dk red five)
set_option maxHeartbeats 3200000
set_option maxRecDepth 100000
theorem slAt_nil (w : World) (k : IntKind) : SlAt w k (some (.slice none 0 0)) [] := ⟨none, 0, rfl, Nat.le_refl _, by simp [maxLen], fun _ => rfl, SlC.nil _ _⟩
theorem results_run {P : Program} {fn : Func} {p u q : Tmp} {tp tq : TypeId} (h : fn.results = #[.cell p tp, .tmp u, .cell q tq]) (tmps : Array Value) (w : World) (g g' : Nat) (t t' : TypeId) (cs cs' : Array Value) (fr fr' : Nat × Nat) (d d' : TypeDesc)
    (hp : tmps.getD p undef = .pointer (some ⟨g, 0, none⟩)) (hg : w.heap[g]? = some (.cells cs t fr)) (hu : P.underlying tp = some d) (hd : (match d with | .struct _ | .array _ _ => true | _ => false) = true) (hi : (P.info? tp).map (·.size) = some cs.size)
    (hq : tmps.getD q undef = .pointer (some ⟨g', 0, none⟩)) (hg' : w.heap[g']? = some (.cells cs' t' fr')) (hu' : P.underlying tq = some d') (hd' : (match d' with | .struct _ | .array _ _ => true | _ => false) = true) (hi' : (P.info? tq).map (·.size) = some cs'.size) :
    (results fn tmps).run P w = .ok (.tuple #[.agg cs, tmps.getD u undef, .agg cs']) w := by
  have hp' : tmps[p]?.getD undef = .pointer (some ⟨g, 0, none⟩) := by simpa using hp
  have hq' : tmps[q]?.getD undef = .pointer (some ⟨g', 0, none⟩) := by simpa using hq
  simp [results, h, hp', hq', asAddr, run_loadVar_row w g t tp cs fr d hg hu hd hi, run_loadVar_row w g' t' tq cs' fr' d' hg' hu' hd' hi']
theorem sizeF : (Tryz.prog.info? 27).map (·.size) = some 2 := by kernel_rfl
theorem ext_heap {w w' : World} (h : Ext w w') {g : Nat} {o : Obj} (hg : w.heap[g]? = some o) : w'.heap[g]? = some o := by
  rw [h.block g (Array.getElem?_eq_some_iff.1 hg).1]; exact hg
theorem blk_cell {w : World} {g : Nat} {cs : Array Value} {t : TypeId} (h : w.heap[g]? = some (.cells cs t (0, 0))) (i : Nat) : w.cell? ⟨g, i, none⟩ = cs[i]? := cell_of_row w g i cs t (0, 0) h
theorem blk_frozen {w : World} {g : Nat} {cs : Array Value} {t : TypeId} (h : w.heap[g]? = some (.cells cs t (0, 0))) (i : Nat) : w.frozen? ⟨g, i, none⟩ = false := by simp [World.frozen?, h]
end Go.Proofs.YtbaahbpianingaaGreatDoor
namespace Go.Proofs.YtbaahbpianingaaGreatDoor
open Go Go.Proofs Go.RowKit
open Acc (Dk red five)
set_option maxHeartbeats 3200000
set_option maxRecDepth 100000
theorem Ext.setRow {w wx : World} (h : Ext w wx) {g : Nat} (hg : w.heap.size ≤ g) (cs : Array Value) : Ext w (wx.setRow g cs) :=
  Below.trans h ⟨rfl, rfl, rfl, by simp [World.setRow], fun k hk => setRow_other wx g k cs (by omega)⟩
theorem step_store_row {P : Program} {W : World} {ops : Array Oper} {o : Oper} {a : Act} {K : Act → World → Prop} {Q : Exit → Act → World → Prop} {E : Prop} (hgd : o.guard = none) (ty : TypeId) (x y : Operand) (ho : o.op = .store ty x y)
    (g : Nat) (cells : Array Value) (hx : a.eval x = .pointer (some ⟨g, 0, none⟩)) (hy : a.eval y = .agg cells)
    (t : TypeId) (old : Array Value) (hg : W.heap[g]? = some (.cells old t (0, 0))) (hi : (P.info? ty).map (·.size) = some cells.size)
    (hold : old.size = cells.size) (h1 : cells.all (·.oneCell') = true) (h : K (a.put o.dst undef) (W.setRow g cells)) : if Region.wanted o (yielded ops a.tmps) = true then Oper.wp P o a W K Q else E := by
  have hw : Region.wanted o (yielded ops a.tmps) = true := by simp [Region.wanted, hgd]
  rw [if_pos hw]
  exact wp_store_row ty x y ho g cells hx hy t old hg hi hold h1 h
theorem step_load_row {P : Program} {W : World} {ops : Array Oper} {o : Oper} {a : Act} {K : Act → World → Prop} {Q : Exit → Act → World → Prop} {E : Prop} (hgd : o.guard = none) (ty : TypeId) (x : Operand) (ho : o.op = .load ty x)
    (g : Nat) (hx : a.eval x = .pointer (some ⟨g, 0, none⟩)) (t : TypeId) (cs : Array Value) (fr : Nat × Nat) (d : TypeDesc) (hg : W.heap[g]? = some (.cells cs t fr))
    (hu : P.underlying ty = some d) (hd : (match d with | .struct _ | .array _ _ => true | _ => false) = true) (hi : (P.info? ty).map (·.size) = some cs.size)
    (h : K (a.put o.dst (.agg cs)) W) : if Region.wanted o (yielded ops a.tmps) = true then Oper.wp P o a W K Q else E := by
  have hw : Region.wanted o (yielded ops a.tmps) = true := by simp [Region.wanted, hgd]
  rw [if_pos hw]
  exact wp_load_row ty x ho g hx t cs fr d hg hu hd hi h
theorem step_assign {P : Program} {W : World} {ops : Array Oper} {o : Oper} {a : Act} {K : Act → World → Prop} {Q : Exit → Act → World → Prop} {E : Prop} (hgd : o.guard = none) (x : Operand) (ho : o.op = .assign x) (v : Value) (hx : a.eval x = v)
    (h : K (a.put o.dst v) W) : if Region.wanted o (yielded ops a.tmps) = true then Oper.wp P o a W K Q else E := by
  have hw : Region.wanted o (yielded ops a.tmps) = true := by simp [Region.wanted, hgd]
  rw [if_pos hw]
  unfold Oper.wp execOp
  simp only [ho, Sem.run_pure, hx]
  exact h
end Go.Proofs.YtbaahbpianingaaGreatDoor
namespace Go.Proofs.YtbaahbpianingaaGreatDoor
open Go Go.Proofs Go.RowKit
open Acc (Dk red five)
set_option maxHeartbeats 3200000
set_option maxRecDepth 100000
theorem Ext.trans' {w wx w1 : World} {bm : Nat} (h : Ext w wx) (x : Below bm wx w1) (hb : w.heap.size ≤ bm) : Ext w w1 := Below.trans h (Below.mono x hb)
end Go.Proofs.YtbaahbpianingaaGreatDoor
namespace Go.Proofs.YtbaahbpianingaaGreatDoor
open Go Go.Proofs Go.RowKit
open Acc (Dk red five)
set_option maxHeartbeats 3200000
set_option maxRecDepth 100000
theorem results_two {P : Program} {fn : Func} {p q : Tmp} {tp tq : TypeId} (h : fn.results = #[.cell p tp, .cell q tq]) (tmps : Array Value) (w : World) (g g' : Nat) (t t' : TypeId) (cs cs' : Array Value) (fr fr' : Nat × Nat) (d d' : TypeDesc)
    (hp : tmps.getD p undef = .pointer (some ⟨g, 0, none⟩)) (hg : w.heap[g]? = some (.cells cs t fr)) (hu : P.underlying tp = some d) (hd : (match d with | .struct _ | .array _ _ => true | _ => false) = true) (hi : (P.info? tp).map (·.size) = some cs.size)
    (hq : tmps.getD q undef = .pointer (some ⟨g', 0, none⟩)) (hg' : w.heap[g']? = some (.cells cs' t' fr')) (hu' : P.underlying tq = some d') (hd' : (match d' with | .struct _ | .array _ _ => true | _ => false) = true) (hi' : (P.info? tq).map (·.size) = some cs'.size) :
    (results fn tmps).run P w = .ok (.tuple #[.agg cs, .agg cs']) w := by
  have hp' : tmps[p]?.getD undef = .pointer (some ⟨g, 0, none⟩) := by simpa using hp
  have hq' : tmps[q]?.getD undef = .pointer (some ⟨g', 0, none⟩) := by simpa using hq
  simp [results, h, hp', hq', asAddr, run_loadVar_row w g t tp cs fr d hg hu hd hi, run_loadVar_row w g' t' tq cs' fr' d' hg' hu' hd' hi']
end Go.Proofs.YtbaahbpianingaaGreatDoor
namespace Go.Proofs.YtbaahbpianingaaGreatDoor
open Go Go.Proofs Go.RowKit
open Acc (Dk red five)
set_option maxHeartbeats 3200000
set_option maxRecDepth 100000
theorem own_at {w F : World} {B : Nat} {e : TypeId} {k : IntKind} {v : Value} {l : List Int} (hw : w.ownsRow B e 1 v l.length (l.map (Value.int k))) (hk : ∀ g, v.ownBlock = some g → F.heap[g]? = w.heap[g]?) : SlAt F k (some v) l := by
  obtain ⟨A, c, hv, h2, h3, h4, h5⟩ := own_sl (own_keep (w' := F) hw hk)
  exact ⟨A, c, by rw [hv], h2, h3, h4, h5⟩
end Go.Proofs.YtbaahbpianingaaGreatDoor
namespace Go.Proofs.YtbaahbpianingaaGreatDoor
open Go Go.Proofs Go.RowKit
open Tape (Rule Ts)
set_option maxHeartbeats 1600000
set_option maxRecDepth 100000
def ruleV (r : Rule) : List Value := [.int .i64 r.st, .int .i64 r.sy, .int .i64 r.wr, .int .i64 r.mv, .int .i64 r.nx]
def rulesV (L : List Rule) : List Value := L.flatMap ruleV
theorem ruleV_len (r : Rule) : (ruleV r).length = 5 := rfl
theorem rulesV_len : ∀ L : List Rule, (rulesV L).length = L.length * 5
  | [] => rfl
  | r :: L => by
    show (ruleV r ++ rulesV L).length = _
    rw [List.length_append, rulesV_len L, ruleV_len, List.length_cons]
    omega
theorem rulesV_get : ∀ (L : List Rule) (i j : Nat) (r : Rule), L[i]? = some r → j < 5 → (rulesV L)[i * 5 + j]? = (ruleV r)[j]?
  | [], _, _, _, h, _ => by simp at h
  | q :: L, 0, j, r, h, hj => by
    have e : q = r := by simpa using h
    subst e
    show (ruleV q ++ rulesV L)[0 * 5 + j]? = _
    rw [List.getElem?_append_left (by rw [ruleV_len]; omega)]
    congr 1
    omega
  | q :: L, i + 1, j, r, h, hj => by
    show (ruleV q ++ rulesV L)[(i + 1) * 5 + j]? = _
    rw [List.getElem?_append_right (by rw [ruleV_len]; omega), ruleV_len, show (i + 1) * 5 + j - 5 = i * 5 + j by omega]
    exact rulesV_get L i j r (by simpa using h) hj
theorem rulesV_append (L M : List Rule) : rulesV (L ++ M) = rulesV L ++ rulesV M := List.flatMap_append
theorem rulesV_one (L : List Rule) : ∀ u ∈ rulesV L, u.oneCell' = true := by
  intro u hu
  obtain ⟨r, _, hr⟩ := List.mem_flatMap.1 hu
  simp only [ruleV, List.mem_cons, List.not_mem_nil, or_false] at hr
  rcases hr with rfl | rfl | rfl | rfl | rfl <;> rfl
/-- A rule lies here. -/
structure RuleAt (w : World) (b o : Nat) (r : Rule) : Prop where
  st : w.cell? ⟨b, o, none⟩ = some (.int .i64 r.st)
  sy : w.cell? ⟨b, o + 1, none⟩ = some (.int .i64 r.sy)
  wr : w.cell? ⟨b, o + 2, none⟩ = some (.int .i64 r.wr)
  mv : w.cell? ⟨b, o + 3, none⟩ = some (.int .i64 r.mv)
  nx : w.cell? ⟨b, o + 4, none⟩ = some (.int .i64 r.nx)
/-- A slice of rules. -/
def Rls (w : World) (A : Option Addr) (L : List Rule) : Prop := SlC w A (rulesV L)
theorem Rls.ext {w w' : World} {A : Option Addr} {L : List Rule} (h : Rls w A L) (e : Ext w w') : Rls w' A L := SlC.ext h e
theorem SlC.base {w : World} {A : Option Addr} {xs : List Value} (h : SlC w A xs) (hn : 0 < xs.length) : ∃ b o, A = some ⟨b, o, none⟩ := by
  obtain ⟨a, ha, hc⟩ := h 0 xs[0] (List.getElem?_eq_getElem hn)
  obtain ⟨b, o, s⟩ := a
  have hs : s = none := by
    cases s with
    | none => rfl
    | some x => simp [Addr.add, World.cell?] at hc; split at hc <;> simp at hc
  subst hs
  exact ⟨b, o, ha⟩
theorem add_off (b o i : Nat) : (⟨b, o, none⟩ : Addr).add i = ⟨b, o + i, none⟩ := by
  unfold Addr.add
  split
  · rename_i h; subst h; rfl
  · rfl
theorem SlC.cell {w : World} {b o : Nat} {xs : List Value} (h : SlC w (some ⟨b, o, none⟩) xs) {i : Nat} {u : Value} (hu : xs[i]? = some u) : w.cell? ⟨b, o + i, none⟩ = some u := by
  obtain ⟨a, ha, hc⟩ := h i u hu
  cases ha
  rw [add_off] at hc
  exact hc
theorem Rls.at_ {w : World} {A : Option Addr} {L : List Rule} (h : Rls w A L) {i : Nat} {r : Rule} (hr : L[i]? = some r) : ∃ b o, A = some ⟨b, o, none⟩ ∧ RuleAt w b (o + i * 5) r := by
  have hi := (List.getElem?_eq_some_iff.1 hr).1
  obtain ⟨b, o, hA⟩ := SlC.base h (by rw [rulesV_len]; omega)
  subst hA
  refine ⟨b, o, rfl, ?_, ?_, ?_, ?_, ?_⟩
  · have := SlC.cell h (rulesV_get L i 0 r hr (by omega)); exact this
  · have := SlC.cell h (rulesV_get L i 1 r hr (by omega)); rw [← Nat.add_assoc] at this; exact this
  · have := SlC.cell h (rulesV_get L i 2 r hr (by omega)); rw [← Nat.add_assoc] at this; exact this
  · have := SlC.cell h (rulesV_get L i 3 r hr (by omega)); rw [← Nat.add_assoc] at this; exact this
  · have := SlC.cell h (rulesV_get L i 4 r hr (by omega)); rw [← Nat.add_assoc] at this; exact this
/-- The numbers of a rule are int's. -/
structure RuleWf (r : Rule) : Prop where
  st : I64 r.st
  sy : I64 r.sy
  wr : I64 r.wr
  mv : I64 r.mv
  nx : I64 r.nx
/-- What is known of a rule that is one. -/
structure RuleFits (r : Rule) : Prop where
  st0 : 0 ≤ r.st
  st1 : r.st ≤ 15
  sy0 : 0 ≤ r.sy
  sy1 : r.sy ≤ 3
  wr0 : 0 ≤ r.wr
  wr1 : r.wr ≤ 3
  mv0 : -1 ≤ r.mv
  mv1 : r.mv ≤ 1
  nx0 : -1 ≤ r.nx
  nx1 : r.nx ≤ 15
theorem rule_fits {r : Rule} (h : Tape.ruleB r = true) : RuleFits r := by
  obtain ⟨⟨a, b⟩, ⟨c, d⟩, ⟨e, f⟩, ⟨g, i⟩, ⟨j, k⟩⟩ := Tape.ruleB_iff.1 h
  exact ⟨a, b, c, d, e, f, g, i, j, k⟩
theorem ruleB_in (r : Rule) : Tape.ruleB r = (inB r.st 0 15 && inB r.sy 0 3 && inB r.wr 0 3 && inB r.mv (-1) 1 && inB r.nx (-1) 15) := by
  unfold Tape.ruleB inB
  simp only [Bool.decide_and]
/-- A rule that does not stand behind the one ahead of it. -/
def ordB : Option Rule → Rule → Bool
  | none, _ => false
  | some q, r => !Tape.befB q r
/-- The first fault of rules, from rule i on; p: the rule ahead. -/
def scanR : Nat → Option Rule → List Rule → Int × Int
  | _, _, [] => (0, 0)
  | i, p, r :: rest => if Tape.ruleB r = false then (4, (i : Int)) else if ordB p r = true then (11, (i : Int)) else scanR (i + 1) (some r) rest
def faultR (L : List Rule) : Int × Int := if 64 < L.length then (2, -1) else scanR 0 none L
/-- The rule ahead of rule k. -/
def prevR (L : List Rule) (k : Nat) : Option Rule := if k = 0 then none else L[k - 1]?
theorem prevR_succ {L : List Rule} {k : Nat} {r : Rule} (h : L[k]? = some r) : prevR L (k + 1) = some r := by unfold prevR; rw [if_neg (by omega), Nat.add_sub_cancel, h]
theorem scan_step {L : List Rule} {k : Nat} {r : Rule} (h : L[k]? = some r) : scanR k (prevR L k) (L.drop k) =
    if Tape.ruleB r = false then (4, (k : Int)) else if ordB (prevR L k) r = true then (11, (k : Int)) else scanR (k + 1) (prevR L (k + 1)) (L.drop (k + 1)) := by
  obtain ⟨h1, h2⟩ := List.getElem?_eq_some_iff.1 h
  rw [List.drop_eq_getElem_cons h1, h2, prevR_succ h]
  rfl
end Go.Proofs.YtbaahbpianingaaGreatDoor
namespace Go.Proofs.YtbaahbpianingaaGreatDoor
open Go Go.Proofs Go.RowKit
open Acc (Dk red five)
set_option maxHeartbeats 4000000
set_option maxRecDepth 100000
def strLen (v : Value) : Nat := match v with | .string b => b.size | _ => 0
end Go.Proofs.YtbaahbpianingaaGreatDoor
namespace Go.Proofs.YtbaahbpianingaaGreatDoor
open Go Go.Proofs Go.RowKit
open Acc (Dk red five)
set_option maxHeartbeats 4000000
set_option maxRecDepth 100000
def WRet (w : World) (r : List Int × (Int × Int)) (e : Ending) (w' : World) : Prop := e = .returned (.tuple #[.string (strOfNums r.1), fAgg r.2]) ∧ Ext w w'
theorem wret {w w' : World} {a : ByteArray} {p : Int × Int} {l : List Int} (h : a = strOfNums l) (hx : Ext w w') : WRet w (l, p) (.returned (.tuple #[.string a, fAgg p])) w' := ⟨by rw [h], hx⟩
/-- A block of two numbers. -/
structure Blk2 (w : World) (g : Nat) (c i : Int) : Prop where
  c0 : w.cell? ⟨g, 0, none⟩ = some (.int .i64 c)
  c1 : w.cell? ⟨g, 1, none⟩ = some (.int .i64 i)
  f0 : w.frozen? ⟨g, 0, none⟩ = false
  f1 : w.frozen? ⟨g, 1, none⟩ = false
theorem Blk2.mk' {w : World} {g : Nat} {c i : Int} (h : w.heap[g]? = some (.cells #[.int .i64 c, .int .i64 i] 27 (0, 0))) : Blk2 w g c i :=
  ⟨blk_cell h 0, blk_cell h 1, blk_frozen h 0, blk_frozen h 1⟩
theorem results_tc {P : Program} {fn : Func} {u q : Tmp} {tq : TypeId} (h : fn.results = #[.tmp u, .cell q tq]) (tmps : Array Value) (w : World) (g' : Nat) (t' : TypeId) (cs' : Array Value) (fr' : Nat × Nat) (d' : TypeDesc)
    (hq : tmps.getD q undef = .pointer (some ⟨g', 0, none⟩)) (hg' : w.heap[g']? = some (.cells cs' t' fr')) (hu' : P.underlying tq = some d') (hd' : (match d' with | .struct _ | .array _ _ => true | _ => false) = true) (hi' : (P.info? tq).map (·.size) = some cs'.size) :
    (results fn tmps).run P w = .ok (.tuple #[tmps.getD u undef, .agg cs']) w := by
  have hq' : tmps[q]?.getD undef = .pointer (some ⟨g', 0, none⟩) := by simpa using hq
  simp [results, h, hq', asAddr, run_loadVar_row w g' t' tq cs' fr' d' hg' hu' hd' hi']
theorem fblk_set {w1 : World} {g : Nat} {c i c' i' : Int} (h : w1.heap[g]? = some (.cells #[.int .i64 c', .int .i64 i'] 27 (0, 0))) : ((w1.setCell ⟨g, 0, none⟩ (.int .i64 c)).setCell ⟨g, 1, none⟩ (.int .i64 i)).heap[g]? = some (.cells #[.int .i64 c, .int .i64 i] 27 (0, 0)) :=
  heap_set_self (heap_set_self h 0 _) 1 _
theorem fblk_fin {w1 : World} {g : Nat} {c i c' i' : Int} (h : w1.heap[g]? = some (.cells #[.int .i64 c', .int .i64 i'] 27 (0, 0))) (o : Obj) : (((w1.setCell ⟨g, 0, none⟩ (.int .i64 c)).setCell ⟨g, 1, none⟩ (.int .i64 i)).alloc o).heap[g]? = some (.cells #[.int .i64 c, .int .i64 i] 27 (0, 0)) := by
  rw [Below.heap_alloc _ _ _ (by have := (Array.getElem?_eq_some_iff.1 h).1; simpa using this)]
  exact fblk_set h
theorem ext_set2 {w w1 : World} (h : Ext w w1) {g : Nat} (hg : w.heap.size ≤ g) (u v : Value) : Ext w ((w1.setCell ⟨g, 0, none⟩ u).setCell ⟨g, 1, none⟩ v) :=
  Ext.setCell (p := ⟨g, 1, none⟩) (Ext.setCell (p := ⟨g, 0, none⟩) h hg u) hg v
end Go.Proofs.YtbaahbpianingaaGreatDoor
namespace Go.Proofs.YtbaahbpianingaaGreatDoor
open Go Go.Proofs Go.RowKit
open Acc (Dk red five)
set_option maxHeartbeats 3200000
set_option maxRecDepth 100000
theorem sl_block {w : World} {g : Nat} {cs : Array Value} {t : TypeId} {fr : Nat × Nat} {k : IntKind} {l : List Int} (h : w.heap[g]? = some (.cells cs t fr)) (hl : cs.toList = l.map (Value.int k)) : Sl w k (some ⟨g, 0, none⟩) l := by
  intro i u hu
  refine ⟨_, rfl, ?_⟩
  have : (Addr.add ⟨g, 0, none⟩ i) = ⟨g, i, none⟩ := by
    by_cases h0 : i = 0
    · subst h0; simp [Addr.add]
    · simp [Addr.add, h0]
  rw [this, cell_of_row w g i cs t fr h, ← Array.getElem?_toList, hl]
  exact hu
theorem wpList_load_rowg {P : Program} {ops : Array Oper} {rest : List Oper} {o : Oper} {a : Act} {w : World} {Q : Exit → Act → World → Prop} (hw : Region.wanted o (yielded ops a.tmps) = true) (ty : TypeId) (x : Operand) (ho : o.op = .load ty x)
    (g : Nat) (hx : a.eval x = .pointer (some ⟨g, 0, none⟩)) (t : TypeId) (cs : Array Value) (fr : Nat × Nat) (d : TypeDesc) (hg : w.heap[g]? = some (.cells cs t fr))
    (hu : P.underlying ty = some d) (hd : (match d with | .struct _ | .array _ _ => true | _ => false) = true) (hi : (P.info? ty).map (·.size) = some cs.size)
    (h : wpList P ops Q rest (a.put o.dst (.agg cs)) w) : wpList P ops Q (o :: rest) a w := by
  refine wpList_step fun K hK => ?_
  rw [if_pos hw]
  exact wp_load_row ty x ho g hx t cs fr d hg hu hd hi (hK _ _ h)
theorem fld0 (c i : Int) (w : World) : (Instr.field 27 (.agg #[.int .i64 c, .int .i64 i]) 0).run Tryz.prog w = .ok (.int .i64 c) w := by kernel_rfl
end Go.Proofs.YtbaahbpianingaaGreatDoor
namespace Go.Proofs.YtbaahbpianingaaGreatDoor
open Go Go.Proofs Go.RowKit
open Tape (Rule Ts)
set_option maxHeartbeats 3200000
set_option maxRecDepth 100000
theorem tin_c (n lo hi : Int) (w : World) :
    Calls Tryz.prog 37 #[.int .i64 n, .int .i64 lo, .int .i64 hi] w fun e w' => e = .returned (.bool (inB n lo hi)) ∧ w = w' := by
  by_cases h2 : lo ≤ n
  all_goals go_enter Tryz.func37, Tryz.ntmps37
  all_goals go_wp2
  all_goals go_ret
  all_goals refine ⟨ret_bool ?_, rfl⟩
  all_goals simp [inB]
  all_goals omega
theorem tfault_c (c i : Int) (w : World) :
    Calls Tryz.prog 24 #[.int .i64 c, .int .i64 i] w fun e w' => e = .returned (.agg #[.int .i64 c, .int .i64 i]) ∧ w.alloc (.cells #[.int .i64 c, .int .i64 i] 27) = w' := by
  go_enter Tryz.func24, Tryz.ntmps24
  go_wp2
  exact bodyPost_ret (v := .agg #[.int .i64 c, .int .i64 i]) (by simp [results, Tryz.results24, go_sem]) rfl ⟨rfl, rfl⟩
def orF (a b : Int) : Int := if a = 0 then b else a
theorem or_c (b o : Nat) (x y : Int) (w : World) (hx : w.cell? ⟨b, o, none⟩ = some (.int .i64 x)) (hy : w.cell? ⟨b, o + 1, none⟩ = some (.int .i64 y)) :
    Calls Tryz.prog 45 #[.slice (some ⟨b, o, none⟩) 2 2] w fun e w' => e = .returned (.int .i64 (orF x y)) ∧ w = w' := by
  have HF : Hid (∀ k : Nat, k ≤ 2 → (0 < k → x = 0) → (1 < k → y = 0) → (k = 0 → x ≠ 0 → x = orF x y) ∧ (k = 1 → y ≠ 0 → y = orF x y) ∧ (k = 2 → (0 : Int) = orF x y)) := Lib.hid (by
    intro k hk h0 h1
    unfold orF
    refine ⟨fun _ h => by rw [if_neg h], fun e _ => by rw [if_pos (h0 (by omega))], fun e => by rw [if_pos (h0 (by omega)), h1 (by omega)]⟩)
  go_enter Tryz.func45, Tryz.ntmps45
  go_wp2
  go_loop [8] (fun i => ∃ k : Nat, k ≤ 2 ∧ i = .int .i64 k ∧ Hid (0 < k → x = 0) ∧ Hid (1 < k → y = 0)) (fun i => 2 - (intOf i).toNat)
  case atStart => exact ⟨0, Nat.zero_le _, rfl, Lib.hid (fun h => by omega), Lib.hid (fun h => by omega)⟩
  case round =>
    obtain ⟨k, hk, rfl, h0, h1⟩ := hrel
    rcases (by omega : k = 0 ∨ k = 1 ∨ k = 2) with rfl | rfl | rfl
    · by_cases q : x = 0
      · subst q
        go_wp2
        go_round
        case rel => exact ⟨1, by omega, rfl, Lib.hid (fun _ => by trivial), Lib.hid (fun h => by omega)⟩
        case measure => simp [intOf]
      · have q1 : (x != 0) = true := by simpa using q
        have HQ := Lib.hid ((HF.out 0 (by omega) h0.out h1.out).1 rfl q)
        clear q
        go_wp2
        go_ret
        exact ⟨ret_int HQ.out, rfl⟩
    · by_cases q : y = 0
      · subst q
        have hx0 := h0.out (by omega)
        have HX0 := Lib.hid hx0
        clear hx0
        go_wp2
        go_round
        case rel => exact ⟨2, by omega, rfl, Lib.hid (fun _ => HX0.out), Lib.hid (fun _ => by trivial)⟩
        case measure => simp [intOf]
      · have q1 : (y != 0) = true := by simpa using q
        have HQ := Lib.hid ((HF.out 1 (by omega) h0.out h1.out).2.1 rfl q)
        clear q
        go_wp2
        go_ret
        exact ⟨ret_int HQ.out, rfl⟩
    · have HQ := Lib.hid ((HF.out 2 (by omega) h0.out h1.out).2.2 rfl)
      go_wp2
      go_ret
      exact ⟨ret_int HQ.out, rfl⟩
theorem or_bef {q r : Rule} (hq : Tape.ruleB q = true) (hr : Tape.ruleB r = true) : decide (orF (r.st - q.st) (r.sy - q.sy) ≤ 0) = !Tape.befB q r := by
  have a := rule_fits hq
  have b := rule_fits hr
  unfold orF Tape.befB
  rw [Bool.eq_iff_iff]
  by_cases h : r.st - q.st = 0
  · rw [if_pos h]; simp; omega
  · rw [if_neg h]; simp; omega
end Go.Proofs.YtbaahbpianingaaGreatDoor
