import Derived.Below
import Derived.WalkKit
import Derived.Maps.AppendAt
import Derived.Deep.AppendLies
import Derived.Deep.Draws
import Derived.WalkSpells
import Derived.Lib.Hide
import Derived.KernelRfl
import Derived.Deep.QuietTactic
import Derived.BigQuiet
import Derived.Test.YtnijfndpefkoeaaProg
import Derived.Laws.EntriesVeiled
import Derived.Deep.DeepCutAuto
import Derived.Outline
import Derived.Laws.ResultCell
import Derived.Deep.RegionHeld3
import Derived.Laws.CopyOwn
import Derived.RegionTactic
import Derived.Deep.RegionLaw
import Derived.Deep.CutBlock
namespace Go.Proofs.Ytnijfndpefkoeaa
open Go Go.RowKit

/-- Every block of w is kept in w'; the streams are as they were. -/
def Ext (w w' : World) : Prop := Below w.heap.size w w'
section
variable {w w' w'' : World}
theorem Ext.refl (w : World) : Ext w w := Below.refl _ _
theorem Ext.trans (h : Ext w w') (k : Ext w' w'') : Ext w w'' := Below.trans h (Below.mono k h.size)
theorem Ext.drew (h : Ext w w') : Ext w w'.drew := Below.drew h
theorem Ext.drewN (h : Ext w w') (n : Nat) : Ext w (w'.drewN n) := ⟨h.os, h.tape, h.output, h.size, h.block⟩
theorem Ext.alloc (h : Ext w w') (o : Obj) : Ext w (w'.alloc o) := Below.alloc h h.size o
theorem Ext.setCell (h : Ext w w') {p : Addr} (hp : w.heap.size ≤ p.block) (u : Value) : Ext w (w'.setCell p u) := Below.setCell h hp u
theorem Ext.size (h : Ext w w') : w.heap.size ≤ w'.heap.size := Below.size h
theorem Ext.cell (h : Ext w w') {p : Addr} {v : Value} (hc : w.cell? p = some v) : w'.cell? p = some v := by
  have hlt := World.block_lt_of_cell? w p hc
  exact (Below.cell h hlt).trans hc
end
/-- The slice at A holds these cells. -/
def SlC (w : World) (A : Option Addr) (xs : List Value) : Prop := ∀ i u, xs[i]? = some u → ∃ a, A = some a ∧ w.cell? (a.add i) = some u
theorem SlC.ext {w w' : World} {A : Option Addr} {xs : List Value} (h : SlC w A xs) (e : Ext w w') : SlC w' A xs := by
  intro i x hx
  obtain ⟨a, ha, hc⟩ := h i x hx
  exact ⟨a, ha, e.cell hc⟩
theorem SlC.nil (w : World) (A : Option Addr) : SlC w A [] := by intro i u h; simp at h
/-- A slice value that reads as a list of integers of kind k. -/
def Sl (w : World) (k : IntKind) (A : Option Addr) (l : List Int) : Prop := SlC w A (l.map (Value.int k))
theorem Sl.ext {w w' : World} {k : IntKind} {A : Option Addr} {l : List Int} (h : Sl w k A l) (e : Ext w w') : Sl w' k A l := SlC.ext h e
theorem Sl.one {w : World} {k : IntKind} {A : Option Addr} {l : List Int} (h : Sl w k A l) {i : Nat} {x : Int} (hx : l[i]? = some x) : ∃ a, A = some a ∧ w.cell? (a.add i) = some (.int k x) :=
  h i (.int k x) (by rw [List.getElem?_map, hx]; rfl)
theorem Sl.mk {w : World} {k : IntKind} {A : Option Addr} {l : List Int} (h : ∀ i x, l[i]? = some x → ∃ a, A = some a ∧ w.cell? (a.add i) = some (.int k x)) : Sl w k A l := by
  intro i u hu
  rw [List.getElem?_map] at hu
  cases hx : l[i]? with
  | none => rw [hx] at hu; cases hu
  | some x => rw [hx] at hu; cases hu; exact h i x hx
theorem Sl.at_ {w : World} {k : IntKind} {A : Option Addr} {l : List Int} (h : Sl w k A l) {i : Nat} (hi : i < l.length) :
    ∃ b o, A = some ⟨b, o, none⟩ ∧ w.cell? ⟨b, o + i, none⟩ = some (.int k (l[i]?.getD 0)) := by
  rw [List.getElem?_eq_getElem hi]
  show ∃ b o, A = some ⟨b, o, none⟩ ∧ w.cell? ⟨b, o + i, none⟩ = some (.int k (l[i]'hi))
  obtain ⟨a, ha, hc⟩ := h.one (List.getElem?_eq_getElem hi)
  obtain ⟨a0, ha0, hc0⟩ := h.one (List.getElem?_eq_getElem (by omega : 0 < l.length))
  rw [ha] at ha0
  cases ha0
  obtain ⟨b, o, s⟩ := a
  have hs : s = none := by
    cases s with
    | none => rfl
    | some x => simp [Addr.add, World.cell?] at hc0; split at hc0 <;> simp at hc0
  subst hs
  refine ⟨b, o, ha, ?_⟩
  by_cases h0 : i = 0
  · subst h0; simpa [Addr.add] using hc
  · simpa [Addr.add, h0] using hc


theorem Sl.at2 {w : World} {k : IntKind} {A : Option Addr} {l : List Int} (h : Sl w k A l) {i : Nat} (hi : i < l.length) :
    ∃ b o x, A = some ⟨b, o, none⟩ ∧ Hid (l[i]? = some x) ∧ w.cell? ⟨b, o + i, none⟩ = some (.int k x) := by
  obtain ⟨b, o, hA, hc⟩ := h.at_ hi
  refine ⟨b, o, l[i], hA, List.getElem?_eq_getElem hi, ?_⟩
  rw [List.getElem?_eq_getElem hi] at hc
  exact hc
/-- The numbers of a byte string. -/
def Byt (l : List Int) : Prop := ∀ x ∈ l, 0 ≤ x ∧ x < 256
theorem run_append_sl {P : Program} (w : World) (base : Nat) (t ty e : TypeId) (i : TypeInfo) (z : Value) (size bytes : Nat) (ht : P.underlying t = some (.slice e)) (hi : P.info? e = some i) (hz : i.zero = some z)
    (hsize : i.size = size) (hby : i.bytes = bytes) (hzs : z.cells.size = size) (hsz : 0 < size)
    (v : Value) (n : Nat) (xs : List Value) (hown : w.ownsRow base e size v n xs)
    (A : Option Addr) (m c : Nat) (news : List Value) (hr : SlC w A news) (hl : news.length = m * size) (h1 : ∀ u ∈ news, u.oneCell' = true)
    (h63 : n + m ≤ maxLen) (hbytes : (n + m) * bytes ≤ 140737488355328) (hbase : base ≤ w.heap.size) :
    ∃ v' w', (Builtin.append_ #[t, t] ty #[v, .slice A m c]).run P w = .ok v' w' ∧ w'.ownsRow base e size v' (n + m) (xs ++ news) ∧ w.grownBy w' v.ownBlock ∧
      (v'.ownBlock = v.ownBlock ∨ v'.ownBlock = some w.heap.size) := by
  rcases A with _ | ad
  · have hn : news = [] := by
      cases news with
      | nil => rfl
      | cons u r => obtain ⟨a, ha, _⟩ := hr 0 u rfl; cases ha
    subst hn
    have hm : m = 0 := by
      rcases Nat.eq_zero_or_pos m with h0 | h0
      · exact h0
      · simp only [List.length_nil] at hl
        have := Nat.mul_pos h0 hsz
        omega
    subst hm
    refine ⟨v, w, ?_, by simpa using hown, ⟨rfl, rfl, rfl, Nat.le_refl _, fun _ _ _ => rfl⟩, .inl rfl⟩
    rcases hown.2 with ⟨rfl, rfl⟩ | ⟨g, cap, cur, rfl, _, _, hnc, _⟩
    · simp [Builtin.append_, run_underlying ht, sizeOf, typeInfo, hi, Builtin.lenOf, Builtin.firstCells]
    · simp [Builtin.append_, run_underlying ht, sizeOf, typeInfo, hi, Builtin.lenOf, Builtin.firstCells, hnc, storeCells]
  · have hcells : ∀ j u, news[j]? = some u → w.cell? (ad.add j) = some u := by
      intro j u hu
      obtain ⟨a, ha, hc⟩ := hr j u hu
      cases ha
      exact hc
    obtain ⟨v', w', hrun, h2, h3, _, h5⟩ := run_append_own_at (P := P) w base t ty e i z size bytes ht hi hz hsize hby hzs hsz v n xs hown ad m c news hl hcells h1 h63 hbytes hbase
    exact ⟨v', w', hrun, h2, h3, h5⟩
theorem wpList_append_sl {P : Program} {w : World} {ops : Array Oper} {rest : List Oper} {o : Oper} {a : Act} {Q : Exit → Act → World → Prop} (hgd : o.guard = none) (s x : Operand) (t : TypeId)
    (ho : o.op = .call { callee := .builtin .append, args := #[s, x], argTypes := #[t, t] })
    (base : Nat) (e : TypeId) (i : TypeInfo) (z : Value) (size bytes : Nat) (ht : P.underlying t = some (.slice e)) (hi : P.info? e = some i) (hz : i.zero = some z)
    (hsize : i.size = size) (hby : i.bytes = bytes) (hzs : z.cells.size = size) (hsz : 0 < size)
    (v : Value) (n : Nat) (xs : List Value) (hs : a.eval s = v) (hown : w.ownsRow base e size v n xs)
    (A : Option Addr) (m c : Nat) (news : List Value) (hx : a.eval x = .slice A m c) (hr : SlC w A news) (hl : news.length = m * size) (h1 : ∀ u ∈ news, u.oneCell' = true)
    (h63 : n + m ≤ maxLen) (hbytes : (n + m) * bytes ≤ 140737488355328) (hbase : base ≤ w.heap.size)
    (h : ∀ v' w', w'.ownsRow base e size v' (n + m) (xs ++ news) → w.grownBy w' v.ownBlock → (v'.ownBlock = v.ownBlock ∨ v'.ownBlock = some w.heap.size) → wpList P ops Q rest (a.put o.dst v') w') : wpList P ops Q (o :: rest) a w := by
  refine wpList_plain hgd fun K hK => ?_
  obtain ⟨v', w', hrun, h2, h3, h4⟩ := run_append_sl (P := P) w base t o.type e i z size bytes ht hi hz hsize hby hzs hsz v n xs hown A m c news hr hl h1 h63 hbytes hbase
  unfold Oper.wp execOp
  simp only [ho, resolve, invoke, builtin, Sem.run_bind, Sem.run_pure, Result.andThen_ok, List.map_toArray, List.map_cons, List.map_nil, hs, hx, hrun]
  exact hK _ _ (h v' w' h2 h3 h4)
theorem step_append_sl {P : Program} {w : World} {ops : Array Oper} {o : Oper} {a : Act} {K : Act → World → Prop} {Q : Exit → Act → World → Prop} {E : Prop} (hgd : o.guard = none) (s x : Operand) (t : TypeId)
    (ho : o.op = .call { callee := .builtin .append, args := #[s, x], argTypes := #[t, t] })
    (base : Nat) (e : TypeId) (i : TypeInfo) (z : Value) (size bytes : Nat) (ht : P.underlying t = some (.slice e)) (hi : P.info? e = some i) (hz : i.zero = some z)
    (hsize : i.size = size) (hby : i.bytes = bytes) (hzs : z.cells.size = size) (hsz : 0 < size)
    (v : Value) (n : Nat) (xs : List Value) (hs : a.eval s = v) (hown : w.ownsRow base e size v n xs)
    (A : Option Addr) (m c : Nat) (news : List Value) (hx : a.eval x = .slice A m c) (hr : SlC w A news) (hl : news.length = m * size) (h1 : ∀ u ∈ news, u.oneCell' = true)
    (h63 : n + m ≤ maxLen) (hbytes : (n + m) * bytes ≤ 140737488355328) (hbase : base ≤ w.heap.size)
    (h : ∀ v' w', w'.ownsRow base e size v' (n + m) (xs ++ news) → w.grownBy w' v.ownBlock → (v'.ownBlock = v.ownBlock ∨ v'.ownBlock = some w.heap.size) → K (a.put o.dst v') w') :
    if Region.wanted o (yielded ops a.tmps) = true then Oper.wp P o a w K Q else E := by
  have hw : Region.wanted o (yielded ops a.tmps) = true := by simp [Region.wanted, hgd]
  rw [if_pos hw]
  obtain ⟨v', w', hrun, h2, h3, h4⟩ := run_append_sl (P := P) w base t o.type e i z size bytes ht hi hz hsize hby hzs hsz v n xs hown A m c news hr hl h1 h63 hbytes hbase
  unfold Oper.wp execOp
  simp only [ho, resolve, invoke, builtin, Sem.run_bind, Sem.run_pure, Result.andThen_ok, List.map_toArray, List.map_cons, List.map_nil, hs, hx, hrun]
  exact h v' w' h2 h3 h4
theorem ints_one {k : IntKind} {l : List Int} : ∀ u ∈ l.map (Value.int k), u.oneCell' = true := by
  intro u hu
  obtain ⟨x, _, rfl⟩ := List.mem_map.1 hu
  rfl
/-- A row of the call's own is a slice that reads as its cells. -/
theorem own_sl {w : World} {base : Nat} {e : TypeId} {v : Value} {n : Nat} {xs : List Value} (h : w.ownsRow base e 1 v n xs) : ∃ A c, v = .slice A n c ∧ n ≤ c ∧ c ≤ maxLen ∧ (A = none → c = 0) ∧ SlC w A xs := by
  rcases h.2 with ⟨rfl, rfl⟩ | ⟨g, cap, cur, rfl, hb, hg, hn, hm, _, ht⟩
  · refine ⟨none, 0, rfl, Nat.le_refl _, by simp [maxLen], fun _ => rfl, ?_⟩
    have : xs = [] := List.eq_nil_of_length_eq_zero (by simpa using h.1)
    subst this
    exact SlC.nil _ _
  · exact ⟨some ⟨g, 0, none⟩, cap, rfl, hn, hm, (fun h => by cases h), fun j u hu => ⟨_, rfl, h.cells (g := g) rfl j u hu⟩⟩
end Go.Proofs.Ytnijfndpefkoeaa
namespace Go.Proofs.Ytnijfndpefkoeaa
open Go Go.RowKit
def I64 (n : Int) : Prop := -9223372036854775808 ≤ n ∧ n ≤ 9223372036854775807
theorem own_lt {w : World} {base : Nat} {e : TypeId} {size n : Nat} {v : Value} {xs : List Value} (h : w.ownsRow base e size v n xs) {g : Nat} (hg : v.ownBlock = some g) : base ≤ g ∧ g < w.heap.size := h.lt g hg
theorem own_keep {w w' : World} {base : Nat} {e : TypeId} {size n : Nat} {v : Value} {xs : List Value} (h : w.ownsRow base e size v n xs) (hk : ∀ g, v.ownBlock = some g → w'.heap[g]? = w.heap[g]?) : w'.ownsRow base e size v n xs := by
  refine ⟨h.1, ?_⟩
  rcases h.2 with hn | ⟨g, cap, cur, rfl, hb, hgg, rest⟩
  · exact .inl hn
  · exact .inr ⟨g, cap, cur, rfl, hb, by rw [hk g rfl]; exact hgg, rest⟩
section
variable {w w' w1 : World} {bm : Nat} {cs : Array Value}
theorem own_ne {base g : Nat} {e t : TypeId} {size n : Nat} {v : Value} {xs : List Value} {cs : Array Value} {fr : Nat × Nat} (h : w.ownsRow base e size v n xs) (hg : w.heap[g]? = some (.cells cs t fr)) (hne : e ≠ t) : v.ownBlock ≠ some g := by
  rcases h.2 with ⟨rfl, _⟩ | ⟨g', cap, cur, rfl, _, hh, _⟩
  · simp [Value.ownBlock]
  · intro he
    have : g' = g := by simpa [Value.ownBlock] using he
    subst this
    rw [hh] at hg
    injection hg with hg
    injection hg with _ ht
    exact hne ht
theorem heap_set_self {t : TypeId} (h : w.heap[bm]? = some (.cells cs t (0, 0))) (i : Nat) (u : Value) : (w.setCell ⟨bm, i, none⟩ u).heap[bm]? = some (.cells (cs.setIfInBounds i u) t (0, 0)) := by
  simp [World.setCell, Array.getElem?_modify, h]
theorem getD_set {i j : Nat} {u : Value} : (cs.setIfInBounds i u)[j]? = if i = j then (if i < cs.size then some u else none) else cs[j]? := by
  rw [Array.getElem?_setIfInBounds]
/-- The output's row has been replaced by another one, in its place or new. -/
structure RowTo (w w1 : World) (bm : Nat) (e : TypeId) (v v' : Value) (n : Nat) (xs : List Value) : Prop where
  own : w1.ownsRow bm e 1 v' n xs
  grown : w.grownBy w1 v.ownBlock
  at_ : v'.ownBlock = v.ownBlock ∨ ∃ g, v'.ownBlock = some g ∧ w.heap.size ≤ g
end
end Go.Proofs.Ytnijfndpefkoeaa
namespace Go.Proofs.Ytnijfndpefkoeaa
open Go Go.Proofs Go.RowKit
set_option maxHeartbeats 1000000
set_option maxRecDepth 100000
theorem ret_bool {a b : Bool} (h : a = b) : Ending.returned (.bool a) = .returned (.bool b) := by rw [h]
theorem ret_int {k : IntKind} {a b : Int} (h : a = b) : Ending.returned (.int k a) = .returned (.int k b) := by rw [h]
def BRet (w : World) (b : Bool) (e : Ending) (w' : World) : Prop := e = .returned (.bool b) ∧ Ext w w'
theorem At_c (c i : Int) (w : World) :
    Calls Try.prog 14 #[.int .i64 c, .int .i64 i] w fun e w' => e = .returned (.agg #[.int .i64 c, .int .i64 i]) ∧ w.alloc (.cells #[.int .i64 c, .int .i64 i] 26) = w' := by
  go_enter Try.func14, Try.ntmps14
  go_wp2
  exact bodyPost_ret (v := .agg #[.int .i64 c, .int .i64 i]) (by simp [results, Try.results14, go_sem]) rfl ⟨rfl, rfl⟩
def inB (n lo hi : Int) : Bool := decide (lo ≤ n ∧ n ≤ hi)
theorem In_c (n lo hi : Int) (w : World) :
    Calls Try.prog 16 #[.int .i64 n, .int .i64 lo, .int .i64 hi] w fun e w' => e = .returned (.bool (inB n lo hi)) ∧ w = w' := by
  by_cases h2 : lo ≤ n
  all_goals go_enter Try.func16, Try.ntmps16
  all_goals go_wp2
  all_goals go_ret
  all_goals refine ⟨ret_bool ?_, rfl⟩
  all_goals simp [inB]
  all_goals omega
end Go.Proofs.Ytnijfndpefkoeaa
namespace Go.Proofs.Ytnijfndpefkoeaa
open Go Go.Proofs Go.RowKit
set_option maxHeartbeats 1000000
set_option maxRecDepth 100000
theorem info_parts {P : Program} {t : TypeId} {z : Value} {a b : Nat} (h : (P.info? t).map (fun i => (i.zero, i.size, i.bytes)) = some (some z, a, b)) : ∃ i, P.info? t = some i ∧ i.zero = some z ∧ i.size = a ∧ i.bytes = b := by
  cases hq : P.info? t with
  | none => rw [hq] at h; cases h
  | some i =>
    rw [hq] at h
    simp only [Option.map_some, Option.some.injEq, Prod.mk.injEq] at h
    exact ⟨i, rfl, h.1, h.2.1, h.2.2⟩
theorem infoI : (Try.prog.info? 3).map (fun i => (i.zero, i.size, i.bytes)) = some (some (.int .i64 0), 1, 8) := by kernel_rfl
end Go.Proofs.Ytnijfndpefkoeaa
namespace Go.Proofs.Ytnijfndpefkoeaa
open Go Go.Proofs Go.RowKit
set_option maxHeartbeats 4000000
set_option maxRecDepth 100000
def fAgg (p : Int × Int) : Value := .agg #[.int .i64 p.1, .int .i64 p.2]
def FRet (w : World) (p : Int × Int) (e : Ending) (w' : World) : Prop := e = .returned (fAgg p) ∧ Ext w w'
theorem FRet.mk {w w' : World} {p q : Int × Int} (h : q = p) (x : Ext w w') : FRet w p (.returned (fAgg q)) w' := ⟨by rw [h], x⟩
end Go.Proofs.Ytnijfndpefkoeaa
namespace Go.Proofs.Ytnijfndpefkoeaa
open Go Go.Proofs Go.RowKit
set_option maxHeartbeats 3200000
set_option maxRecDepth 100000
theorem sizeF : (Try.prog.info? 26).map (·.size) = some 2 := by kernel_rfl
theorem ext_heap {w w' : World} (h : Ext w w') {g : Nat} {o : Obj} (hg : w.heap[g]? = some o) : w'.heap[g]? = some o := by
  rw [h.block g (Array.getElem?_eq_some_iff.1 hg).1]; exact hg
theorem blk_cell {w : World} {g : Nat} {cs : Array Value} {t : TypeId} (h : w.heap[g]? = some (.cells cs t (0, 0))) (i : Nat) : w.cell? ⟨g, i, none⟩ = cs[i]? := cell_of_row w g i cs t (0, 0) h
theorem blk_frozen {w : World} {g : Nat} {cs : Array Value} {t : TypeId} (h : w.heap[g]? = some (.cells cs t (0, 0))) (i : Nat) : w.frozen? ⟨g, i, none⟩ = false := by simp [World.frozen?, h]
end Go.Proofs.Ytnijfndpefkoeaa
namespace Go.Proofs.Ytnijfndpefkoeaa
open Go Go.Proofs Go.RowKit
set_option maxHeartbeats 3200000
set_option maxRecDepth 100000
theorem step_load_row {P : Program} {W : World} {ops : Array Oper} {o : Oper} {a : Act} {K : Act → World → Prop} {Q : Exit → Act → World → Prop} {E : Prop} (hgd : o.guard = none) (ty : TypeId) (x : Operand) (ho : o.op = .load ty x)
    (g : Nat) (hx : a.eval x = .pointer (some ⟨g, 0, none⟩)) (t : TypeId) (cs : Array Value) (fr : Nat × Nat) (d : TypeDesc) (hg : W.heap[g]? = some (.cells cs t fr))
    (hu : P.underlying ty = some d) (hd : (match d with | .struct _ | .array _ _ => true | _ => false) = true) (hi : (P.info? ty).map (·.size) = some cs.size)
    (h : K (a.put o.dst (.agg cs)) W) : if Region.wanted o (yielded ops a.tmps) = true then Oper.wp P o a W K Q else E := by
  have hw : Region.wanted o (yielded ops a.tmps) = true := by simp [Region.wanted, hgd]
  rw [if_pos hw]
  exact wp_load_row ty x ho g hx t cs fr d hg hu hd hi h
end Go.Proofs.Ytnijfndpefkoeaa
namespace Go.Proofs.Ytnijfndpefkoeaa
open Go Go.Proofs Go.RowKit
set_option maxHeartbeats 1600000
set_option maxRecDepth 100000
theorem SlC.base {w : World} {A : Option Addr} {xs : List Value} (h : SlC w A xs) (hn : 0 < xs.length) : ∃ b o, A = some ⟨b, o, none⟩ := by
  obtain ⟨a, ha, hc⟩ := h 0 xs[0] (List.getElem?_eq_getElem hn)
  obtain ⟨b, o, s⟩ := a
  have hs : s = none := by
    cases s with
    | none => rfl
    | some x => simp [Addr.add, World.cell?] at hc; split at hc <;> simp at hc
  subst hs
  exact ⟨b, o, ha⟩
theorem add_off (b o i : Nat) : (⟨b, o, none⟩ : Addr).add i = ⟨b, o + i, none⟩ := by
  unfold Addr.add
  split
  · rename_i h; subst h; rfl
  · rfl
end Go.Proofs.Ytnijfndpefkoeaa
namespace Go.Proofs.Ytnijfndpefkoeaa
open Go Go.Proofs Go.RowKit
set_option maxHeartbeats 4000000
set_option maxRecDepth 100000
/-- A block of two numbers. -/
structure Blk2 (w : World) (g : Nat) (c i : Int) : Prop where
  c0 : w.cell? ⟨g, 0, none⟩ = some (.int .i64 c)
  c1 : w.cell? ⟨g, 1, none⟩ = some (.int .i64 i)
  f0 : w.frozen? ⟨g, 0, none⟩ = false
  f1 : w.frozen? ⟨g, 1, none⟩ = false
theorem Blk2.mk' {w : World} {g : Nat} {c i : Int} (h : w.heap[g]? = some (.cells #[.int .i64 c, .int .i64 i] 26 (0, 0))) : Blk2 w g c i :=
  ⟨blk_cell h 0, blk_cell h 1, blk_frozen h 0, blk_frozen h 1⟩
theorem results_tc {P : Program} {fn : Func} {u q : Tmp} {tq : TypeId} (h : fn.results = #[.tmp u, .cell q tq]) (tmps : Array Value) (w : World) (g' : Nat) (t' : TypeId) (cs' : Array Value) (fr' : Nat × Nat) (d' : TypeDesc)
    (hq : tmps.getD q undef = .pointer (some ⟨g', 0, none⟩)) (hg' : w.heap[g']? = some (.cells cs' t' fr')) (hu' : P.underlying tq = some d') (hd' : (match d' with | .struct _ | .array _ _ => true | _ => false) = true) (hi' : (P.info? tq).map (·.size) = some cs'.size) :
    (results fn tmps).run P w = .ok (.tuple #[tmps.getD u undef, .agg cs']) w := by
  have hq' : tmps[q]?.getD undef = .pointer (some ⟨g', 0, none⟩) := by simpa using hq
  simp [results, h, hq', asAddr, run_loadVar_row w g' t' tq cs' fr' d' hg' hu' hd' hi']
theorem fblk_set {w1 : World} {g : Nat} {c i c' i' : Int} (h : w1.heap[g]? = some (.cells #[.int .i64 c', .int .i64 i'] 26 (0, 0))) : ((w1.setCell ⟨g, 0, none⟩ (.int .i64 c)).setCell ⟨g, 1, none⟩ (.int .i64 i)).heap[g]? = some (.cells #[.int .i64 c, .int .i64 i] 26 (0, 0)) :=
  heap_set_self (heap_set_self h 0 _) 1 _
theorem fblk_fin {w1 : World} {g : Nat} {c i c' i' : Int} (h : w1.heap[g]? = some (.cells #[.int .i64 c', .int .i64 i'] 26 (0, 0))) (o : Obj) : (((w1.setCell ⟨g, 0, none⟩ (.int .i64 c)).setCell ⟨g, 1, none⟩ (.int .i64 i)).alloc o).heap[g]? = some (.cells #[.int .i64 c, .int .i64 i] 26 (0, 0)) := by
  rw [Below.heap_alloc _ _ _ (by have := (Array.getElem?_eq_some_iff.1 h).1; simpa using this)]
  exact fblk_set h
theorem ext_set2 {w w1 : World} (h : Ext w w1) {g : Nat} (hg : w.heap.size ≤ g) (u v : Value) : Ext w ((w1.setCell ⟨g, 0, none⟩ u).setCell ⟨g, 1, none⟩ v) :=
  Ext.setCell (p := ⟨g, 1, none⟩) (Ext.setCell (p := ⟨g, 0, none⟩) h hg u) hg v
end Go.Proofs.Ytnijfndpefkoeaa
namespace Go.Proofs.Ytnijfndpefkoeaa
open Go Go.Proofs Go.RowKit
set_option maxHeartbeats 3200000
set_option maxRecDepth 100000
theorem sl_block {w : World} {g : Nat} {cs : Array Value} {t : TypeId} {fr : Nat × Nat} {k : IntKind} {l : List Int} (h : w.heap[g]? = some (.cells cs t fr)) (hl : cs.toList = l.map (Value.int k)) : Sl w k (some ⟨g, 0, none⟩) l := by
  intro i u hu
  refine ⟨_, rfl, ?_⟩
  have : (Addr.add ⟨g, 0, none⟩ i) = ⟨g, i, none⟩ := by
    by_cases h0 : i = 0
    · subst h0; simp [Addr.add]
    · simp [Addr.add, h0]
  rw [this, cell_of_row w g i cs t fr h, ← Array.getElem?_toList, hl]
  exact hu
theorem wpList_load_rowg {P : Program} {ops : Array Oper} {rest : List Oper} {o : Oper} {a : Act} {w : World} {Q : Exit → Act → World → Prop} (hw : Region.wanted o (yielded ops a.tmps) = true) (ty : TypeId) (x : Operand) (ho : o.op = .load ty x)
    (g : Nat) (hx : a.eval x = .pointer (some ⟨g, 0, none⟩)) (t : TypeId) (cs : Array Value) (fr : Nat × Nat) (d : TypeDesc) (hg : w.heap[g]? = some (.cells cs t fr))
    (hu : P.underlying ty = some d) (hd : (match d with | .struct _ | .array _ _ => true | _ => false) = true) (hi : (P.info? ty).map (·.size) = some cs.size)
    (h : wpList P ops Q rest (a.put o.dst (.agg cs)) w) : wpList P ops Q (o :: rest) a w := by
  refine wpList_step fun K hK => ?_
  rw [if_pos hw]
  exact wp_load_row ty x ho g hx t cs fr d hg hu hd hi (hK _ _ h)
end Go.Proofs.Ytnijfndpefkoeaa
namespace Go.Proofs.Ytnijfndpefkoeaa
open Go Go.Proofs Go.RowKit
set_option maxHeartbeats 6400000
set_option maxRecDepth 100000
theorem run_loadVar_cells {P : Program} {w : World} (g o : Nat) (ty : TypeId) (d : TypeDesc) (xs : List Value) (hx : ∀ i u, xs[i]? = some u → w.cell? ⟨g, o + i, none⟩ = some u)
    (hu : P.underlying ty = some d) (hd : (match d with | .struct _ | .array _ _ => true | _ => false) = true) (hi : (P.info? ty).map (·.size) = some xs.length) :
    (loadVar ty ⟨g, o, none⟩).run P w = .ok (.agg xs.toArray) w := by
  have hl : (loadCells ⟨g, o, none⟩ xs.length).run P w = .ok xs.toArray w :=
    run_loadCells_list (P := P) w ⟨g, o, none⟩ xs (fun j v hv => by rw [add_off]; exact hx j v hv)
  cases hq : P.info? ty with
  | none => simp [hq] at hi
  | some i =>
    have hs : i.size = xs.length := by simpa [hq] using hi
    have hagg : (isAgg ty).run P w = .ok true w := by
      unfold isAgg
      rw [Sem.run_bind, run_underlying hu w]
      cases d <;> simp_all
    simp [loadVar, Sem.run_bind, hagg, sizeOf, typeInfo, hq, hs, hl]
theorem wpList_load_cells {P : Program} {w : World} {ops : Array Oper} {rest : List Oper} {o : Oper} {a : Act} {Q : Exit → Act → World → Prop} (hw : Region.wanted o (yielded ops a.tmps) = true) (ty : TypeId) (x : Operand) (ho : o.op = .load ty x)
    (g f : Nat) (hx : a.eval x = .pointer (some ⟨g, f, none⟩)) (d : TypeDesc) (xs : List Value) (hxs : ∀ i u, xs[i]? = some u → w.cell? ⟨g, f + i, none⟩ = some u)
    (hu : P.underlying ty = some d) (hd : (match d with | .struct _ | .array _ _ => true | _ => false) = true) (hi : (P.info? ty).map (·.size) = some xs.length)
    (h : wpList P ops Q rest (a.put o.dst (.agg xs.toArray)) w) : wpList P ops Q (o :: rest) a w := by
  refine wpList_step fun K hK => ?_
  rw [if_pos hw]
  unfold Oper.wp execOp
  simp only [ho, hx, Instr.loadAt, Instr.sureAddr, Sem.run_bind, Sem.run_pure, Result.andThen_ok, run_loadVar_cells g f ty d xs hxs hu hd hi]
  exact hK _ _ h
end Go.Proofs.Ytnijfndpefkoeaa
namespace Go.Proofs.Ytnijfndpefkoeaa
open Go Go.Proofs Go.RowKit
set_option maxHeartbeats 6400000
set_option maxRecDepth 100000
theorem town_ext {w w' : World} {base : Nat} {e : TypeId} {size n : Nat} {v : Value} {xs : List Value} (h : w.ownsRow base e size v n xs) (x : Ext w w') : w'.ownsRow base e size v n xs :=
  own_keep h fun g hg => x.block g (own_lt h hg).2
theorem town_base {w : World} {base base' : Nat} {e : TypeId} {size n : Nat} {v : Value} {xs : List Value} (h : w.ownsRow base e size v n xs) (hb : base' ≤ base) : w.ownsRow base' e size v n xs := by
  refine ⟨h.1, ?_⟩
  rcases h.2 with hn | ⟨g, cap, cur, h1, h2, h3⟩
  · exact .inl hn
  · exact .inr ⟨g, cap, cur, h1, Nat.le_trans hb h2, h3⟩
theorem own_setLow {w : World} {base : Nat} {e : TypeId} {size n : Nat} {v : Value} {xs : List Value} (h : w.ownsRow base e size v n xs) {g i : Nat} (hg : g < base) (u : Value) : (w.setCell ⟨g, i, none⟩ u).ownsRow base e size v n xs :=
  own_keep h fun k hk => Below.heap_setCell _ _ _ _ (fun q => by have := (own_lt h hk).1; have q2 : k = g := q; omega)
theorem own_setRowLow {w : World} {base : Nat} {e : TypeId} {size n : Nat} {v : Value} {xs : List Value} (h : w.ownsRow base e size v n xs) {g : Nat} (hg : g < base) (c : Array Value) : (w.setRow g c).ownsRow base e size v n xs :=
  own_keep h fun k hk => setRow_other _ _ _ _ (fun q => by have := (own_lt h hk).1; omega)
/-- A row of the call's own is a slice that reads as its cells. -/
theorem own_sl5 {w : World} {base : Nat} {e : TypeId} {size : Nat} {v : Value} {n : Nat} {xs : List Value} (h : w.ownsRow base e size v n xs) : ∃ A c, v = .slice A n c ∧ n ≤ c ∧ c ≤ maxLen ∧ (A = none → c = 0) ∧ SlC w A xs := by
  rcases h.2 with ⟨rfl, rfl⟩ | ⟨g, cap, cur, rfl, hb, hg, hn, hm, _, ht⟩
  · refine ⟨none, 0, rfl, Nat.le_refl _, by simp [maxLen], fun _ => rfl, ?_⟩
    have : xs = [] := List.eq_nil_of_length_eq_zero (by simpa using h.1)
    subst this
    exact SlC.nil _ _
  · exact ⟨some ⟨g, 0, none⟩, cap, rfl, hn, hm, (fun h => by cases h), fun j u hu => ⟨_, rfl, h.cells (g := g) rfl j u hu⟩⟩
end Go.Proofs.Ytnijfndpefkoeaa
namespace Go.Proofs.Ytnijfndpefkoeaa
open Go Go.Proofs Go.RowKit
set_option maxHeartbeats 6400000
set_option maxRecDepth 100000
theorem results_ct {P : Program} {fn : Func} {u q : Tmp} {tq : TypeId} (h : fn.results = #[.cell q tq, .tmp u]) (tmps : Array Value) (w : World) (g' : Nat) (t' : TypeId) (cs' : Array Value) (fr' : Nat × Nat) (d' : TypeDesc)
    (hq : tmps.getD q undef = .pointer (some ⟨g', 0, none⟩)) (hg' : w.heap[g']? = some (.cells cs' t' fr')) (hu' : P.underlying tq = some d') (hd' : (match d' with | .struct _ | .array _ _ => true | _ => false) = true) (hi' : (P.info? tq).map (·.size) = some cs'.size) :
    (results fn tmps).run P w = .ok (.tuple #[.agg cs', tmps.getD u undef]) w := by
  have hq' : tmps[q]?.getD undef = .pointer (some ⟨g', 0, none⟩) := by simpa using hq
  simp [results, h, hq', asAddr, run_loadVar_row w g' t' tq cs' fr' d' hg' hu' hd' hi']
end Go.Proofs.Ytnijfndpefkoeaa
namespace Go.Proofs.Ytnijfndpefkoeaa
open Go Go.Proofs Go.RowKit
set_option maxHeartbeats 12800000
set_option maxRecDepth 100000
theorem slc_at {W : World} {g : Nat} {e : TypeId} (h : g = W.heap.size) (xs : List Value) : SlC (W.alloc (.cells xs.toArray e)) (some ⟨g, 0, none⟩) xs := by
  subst h
  intro i u hu
  refine ⟨_, rfl, ?_⟩
  rw [add_off, Nat.zero_add, blk_cell (heap_alloc_new W _)]
  simpa using hu
theorem ext_grown {w wx w2 : World} {row : Option Nat} (h : Ext w wx) (hg : wx.grownBy w2 row) (hr : ∀ g, row = some g → w.heap.size ≤ g) : Ext w w2 :=
  ⟨hg.os.trans h.os, hg.tape.trans h.tape, hg.output.trans h.output, Nat.le_trans h.size hg.size, fun k hk => (hg.block k (Nat.lt_of_lt_of_le hk h.size) (fun e => by have := hr k e.symm; omega)).trans (h.block k hk)⟩
end Go.Proofs.Ytnijfndpefkoeaa
namespace Go.Proofs.Ytnijfndpefkoeaa
open Go Go.Proofs Go.RowKit
set_option maxHeartbeats 1600000
set_option maxRecDepth 100000
def eqTo (l m : List Int) (k : Nat) : Prop := l.take k = m.take k
theorem eqTo_succ {l m : List Int} {k : Nat} (h : eqTo l m k) (h1 : k < l.length) (h2 : k < m.length) (he : l[k]?.getD 0 = m[k]?.getD 0) : eqTo l m (k + 1) := by
  rw [List.getElem?_eq_getElem h1, List.getElem?_eq_getElem h2] at he
  simp only [Option.getD_some] at he
  unfold eqTo at *
  rw [List.take_succ_eq_append_getElem h1, List.take_succ_eq_append_getElem h2, h, he]
theorem eqTo_no {l m : List Int} {k : Nat} (he : l[k]?.getD 0 ≠ m[k]?.getD 0) : decide (l = m) = false := by
  rw [decide_eq_false_iff_not]; rintro rfl; exact he rfl
theorem eqTo_all {l m : List Int} {k : Nat} (h : eqTo l m k) (h1 : l.length ≤ k) (h2 : m.length ≤ k) : decide (l = m) = true := by
  unfold eqTo at h
  rw [List.take_of_length_le h1, List.take_of_length_le h2] at h
  simpa using h
theorem Ints_c (A B : Option Addr) (l m : List Int) (c d : Nat) (w : World) (hl : l.length ≤ maxLen) (hm : m.length ≤ maxLen) (h1 : Sl w .i64 A l) (h2 : Sl w .i64 B m) :
    Calls Try.prog 18 #[.slice A l.length c, .slice B m.length d] w fun e w' => e = .returned (.bool (decide (l = m))) ∧ ∃ n, w' = w.drewN n := by
  unfold maxLen at hl hm
  by_cases hn : l.length = m.length
  · obtain ⟨q, hq⟩ : ∃ q, q = l.length := ⟨_, rfl⟩
    rw [← hq] at hl
    rw [← hn, ← hq]
    have HQ := Lib.hid hq
    have HN := Lib.hid hn
    clear hq hn hm
    go_enter Try.func18, Try.ntmps18
    go_wp2
    go_loopw [5] (fun i wr => ∃ k : Nat, ∃ n : Nat, k ≤ q ∧ i = .int .i64 k ∧ eqTo l m k ∧ wr = w.drewN n) (fun i _ => q - (intOf i).toNat)
    case atStart => exact ⟨0, 0, Nat.zero_le _, rfl, rfl, rfl⟩
    case round =>
      obtain ⟨k, n, hk, rfl, hr, rfl⟩ := hrel
      by_cases hlt : k < q
      · have hkl : k < l.length := by rw [← HQ.out]; exact hlt
        have hkm : k < m.length := by rw [← HN.out, ← HQ.out]; exact hlt
        obtain ⟨b, o, rfl, ha⟩ := h1.at_ hkl
        obtain ⟨b', o', rfl, hb⟩ := h2.at_ hkm
        have HK := Lib.hid hkl
        have HM := Lib.hid hkm
        clear hkl hkm
        go_wp2
        go_quiet (fail)
        go_wp2
        · go_ret
          rename_i hne
          exact ⟨ret_bool (eqTo_no (by simpa using hne)).symm, _, World.drewN_drewN _ _ _⟩
        · rename_i hne
          refine ⟨⟨k + 1, _, by omega, by go_num, eqTo_succ hr HK.out HM.out (by simpa using hne), rfl⟩, by simp [intOf]; omega⟩
      · go_wp2
        go_ret
        exact ⟨ret_bool (eqTo_all hr (by rw [← HQ.out]; omega) (by rw [← HN.out, ← HQ.out]; omega)).symm, _, rfl⟩
  · have hd : ((l.length : Int) != (m.length : Int)) = true := by simp; omega
    have HN := Lib.hid hn
    clear hn
    go_enter Try.func18, Try.ntmps18
    go_wp2
    go_ret
    exact ⟨ret_bool (by simp; rintro rfl; exact HN.out rfl), 0, rfl⟩
end Go.Proofs.Ytnijfndpefkoeaa
namespace Go.Proofs.Ytnijfndpefkoeaa
open Go Go.Proofs Go.RowKit
set_option maxHeartbeats 12800000
set_option maxRecDepth 100000
theorem step_load_rowg {P : Program} {W : World} {ops : Array Oper} {o : Oper} {a : Act} {K : Act → World → Prop} {Q : Exit → Act → World → Prop} {E : Prop} (hw : Region.wanted o (yielded ops a.tmps) = true) (ty : TypeId) (x : Operand) (ho : o.op = .load ty x)
    (g : Nat) (hx : a.eval x = .pointer (some ⟨g, 0, none⟩)) (t : TypeId) (cs : Array Value) (fr : Nat × Nat) (d : TypeDesc) (hg : W.heap[g]? = some (.cells cs t fr))
    (hu : P.underlying ty = some d) (hd : (match d with | .struct _ | .array _ _ => true | _ => false) = true) (hi : (P.info? ty).map (·.size) = some cs.size)
    (h : K (a.put o.dst (.agg cs)) W) : if Region.wanted o (yielded ops a.tmps) = true then Oper.wp P o a W K Q else E := by
  rw [if_pos hw]
  exact wp_load_row ty x ho g hx t cs fr d hg hu hd hi h
theorem step_callg {P : Program} {W : World} {ops : Array Oper} {o : Oper} {a : Act} {K : Act → World → Prop} {Q : Exit → Act → World → Prop} {E : Prop} (hw : Region.wanted o (yielded ops a.tmps) = true) (f : FuncId) (args : List Operand) (ts : Array TypeId)
    (ho : o.op = .call { callee := .value (.func f), args := args.toArray, argTypes := ts }) (vs : List Value) (hvs : args.map a.eval = vs) (hf : ∀ W : World, (callFunc f vs.toArray).run P W = .ok (.enter f vs.toArray) W) {R : Ending → World → Prop} (hc : Calls P f vs.toArray W R)
    (h : ∀ e w', R e w' → ∃ v, e = .returned v ∧ K (a.put o.dst v) w') : if Region.wanted o (yielded ops a.tmps) = true then Oper.wp P o a W K Q else E := by
  rw [if_pos hw]
  unfold Oper.wp
  have hr : (execOp a.eval o).run P W = .ok (.enter f vs.toArray) W := by
    rw [← hf W, ← hvs]
    simp [execOp, ho, resolve, Deferred.ofValue, Act.eval, invoke]
  rw [hr]
  exact hc.mono fun e w' hR => by
    obtain ⟨v, rfl, hk⟩ := h e w' hR
    exact hk
end Go.Proofs.Ytnijfndpefkoeaa
