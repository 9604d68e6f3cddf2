import Derived.Below
import Derived.WalkKit
import Derived.Maps.AppendAt
import Derived.Deep.AppendLies
import Derived.Deep.Draws
import Derived.WalkSpells
import Derived.Lib.Hide
import Derived.KernelRfl
import Derived.Deep.QuietTactic
import Derived.BigQuiet
import Derived.Test.YtbaahbpianingaaDoorMg1
import Derived.Lib.ItoaNum
import Derived.Laws.BytesArg
namespace Go.Proofs.YtbaahbpianingaaDoor
open Go Go.RowKit

/-- Every block of w is kept in w'; the streams are as they were. -/
def Ext (w w' : World) : Prop := Below w.heap.size w w'
section
variable {w w' w'' : World}
theorem Ext.refl (w : World) : Ext w w := Below.refl _ _
theorem Ext.trans (h : Ext w w') (k : Ext w' w'') : Ext w w'' := Below.trans h (Below.mono k h.size)
theorem Ext.drew (h : Ext w w') : Ext w w'.drew := Below.drew h
theorem Ext.drewN (h : Ext w w') (n : Nat) : Ext w (w'.drewN n) := ⟨h.os, h.tape, h.output, h.size, h.block⟩
theorem Ext.alloc (h : Ext w w') (o : Obj) : Ext w (w'.alloc o) := Below.alloc h h.size o
theorem Ext.setCell (h : Ext w w') {p : Addr} (hp : w.heap.size ≤ p.block) (u : Value) : Ext w (w'.setCell p u) := Below.setCell h hp u
theorem Ext.size (h : Ext w w') : w.heap.size ≤ w'.heap.size := Below.size h
theorem Ext.cell (h : Ext w w') {p : Addr} {v : Value} (hc : w.cell? p = some v) : w'.cell? p = some v := by
  have hlt := World.block_lt_of_cell? w p hc
  exact (Below.cell h hlt).trans hc
end
/-- The slice at A holds these cells. -/
def SlC (w : World) (A : Option Addr) (xs : List Value) : Prop := ∀ i u, xs[i]? = some u → ∃ a, A = some a ∧ w.cell? (a.add i) = some u
theorem SlC.ext {w w' : World} {A : Option Addr} {xs : List Value} (h : SlC w A xs) (e : Ext w w') : SlC w' A xs := by
  intro i x hx
  obtain ⟨a, ha, hc⟩ := h i x hx
  exact ⟨a, ha, e.cell hc⟩
theorem SlC.nil (w : World) (A : Option Addr) : SlC w A [] := by intro i u h; simp at h
/-- A slice value that reads as a list of integers of kind k. -/
def Sl (w : World) (k : IntKind) (A : Option Addr) (l : List Int) : Prop := SlC w A (l.map (Value.int k))
theorem Sl.ext {w w' : World} {k : IntKind} {A : Option Addr} {l : List Int} (h : Sl w k A l) (e : Ext w w') : Sl w' k A l := SlC.ext h e
theorem Sl.one {w : World} {k : IntKind} {A : Option Addr} {l : List Int} (h : Sl w k A l) {i : Nat} {x : Int} (hx : l[i]? = some x) : ∃ a, A = some a ∧ w.cell? (a.add i) = some (.int k x) :=
  h i (.int k x) (by rw [List.getElem?_map, hx]; rfl)
theorem Sl.mk {w : World} {k : IntKind} {A : Option Addr} {l : List Int} (h : ∀ i x, l[i]? = some x → ∃ a, A = some a ∧ w.cell? (a.add i) = some (.int k x)) : Sl w k A l := by
  intro i u hu
  rw [List.getElem?_map] at hu
  cases hx : l[i]? with
  | none => rw [hx] at hu; cases hu
  | some x => rw [hx] at hu; cases hu; exact h i x hx
theorem Sl.at_ {w : World} {k : IntKind} {A : Option Addr} {l : List Int} (h : Sl w k A l) {i : Nat} (hi : i < l.length) :
    ∃ b o, A = some ⟨b, o, none⟩ ∧ w.cell? ⟨b, o + i, none⟩ = some (.int k (l[i]?.getD 0)) := by
  rw [List.getElem?_eq_getElem hi]
  show ∃ b o, A = some ⟨b, o, none⟩ ∧ w.cell? ⟨b, o + i, none⟩ = some (.int k (l[i]'hi))
  obtain ⟨a, ha, hc⟩ := h.one (List.getElem?_eq_getElem hi)
  obtain ⟨a0, ha0, hc0⟩ := h.one (List.getElem?_eq_getElem (by omega : 0 < l.length))
  rw [ha] at ha0
  cases ha0
  obtain ⟨b, o, s⟩ := a
  have hs : s = none := by
    cases s with
    | none => rfl
    | some x => simp [Addr.add, World.cell?] at hc0; split at hc0 <;> simp at hc0
  subst hs
  refine ⟨b, o, ha, ?_⟩
  by_cases h0 : i = 0
  · subst h0; simpa [Addr.add] using hc
  · simpa [Addr.add, h0] using hc


theorem Sl.at2 {w : World} {k : IntKind} {A : Option Addr} {l : List Int} (h : Sl w k A l) {i : Nat} (hi : i < l.length) :
    ∃ b o x, A = some ⟨b, o, none⟩ ∧ Hid (l[i]? = some x) ∧ w.cell? ⟨b, o + i, none⟩ = some (.int k x) := by
  obtain ⟨b, o, hA, hc⟩ := h.at_ hi
  refine ⟨b, o, l[i], hA, List.getElem?_eq_getElem hi, ?_⟩
  rw [List.getElem?_eq_getElem hi] at hc
  exact hc
theorem add_zero_addr (a : Addr) : a.add 0 = a := by simp [Addr.add]
theorem run_slice_to {P : Program} (w : World) (t e : TypeId) (i : TypeInfo) (ht : P.underlying t = some (.slice e)) (hi : P.info? e = some i) (A : Option Addr) (n c m : Nat) (k : IntKind) (hm : m ≤ c) :
    (Instr.slice t (.slice A n c) none (some (.int k (m : Int))) none).run P w = .ok (.slice A m c) w := by
  have h1 : (0 : Int) ≤ m ∧ (m : Int) ≤ c := by omega
  have h2 : A.map (fun a => a.add 0) = A := by cases A <;> simp [add_zero_addr]
  simp [Instr.slice, Instr.sliceBounds, Instr.sliceBound, run_underlying ht, asIntOf, sizeOf, typeInfo, hi, h1, h2, hm]
theorem Sl.drewN {w : World} {k : IntKind} {A : Option Addr} {l : List Int} (h : Sl w k A l) (n : Nat) : Sl (w.drewN n) k A l := h
/-- The numbers of a byte string. -/
def Byt (l : List Int) : Prop := ∀ x ∈ l, 0 ≤ x ∧ x < 256
theorem Sl.conv {P : Program} {w : World} {A : Option Addr} {l : List Int} (h : Sl w .u8 A l) (src e dst : TypeId) (hs : P.underlying src = some (.slice e)) (he : P.underlying e = some (.int .u8)) (hd : P.underlying dst = some .string) (c : Nat) :
    (convert src dst (.slice A l.length c)).run P w = .ok (.string (strOfNums l)) w := by
  cases l with
  | nil =>
    cases A with
    | none => simp only [List.length_nil]; rw [run_convert_bytes_nil w src e hs he 0 c dst hd]; rfl
    | some a =>
      simp only [List.length_nil]
      rw [run_convert_bytes_string w src dst e _ 0 c hs he hd, run_bytesToString w _ 0 c [] (by simp [loadCells, loadCellsFrom])]
      rfl
  | cons x r =>
    obtain ⟨b, o, rfl, _⟩ := h.at_ (i := 0) (by simp)
    refine run_convert_bytes_arg w src e hs he b o _ c (x :: r) rfl (fun i hi => ?_) dst hd
    obtain ⟨b', o', hA, hc⟩ := h.at_ hi
    cases hA
    rw [hc]; simp
theorem strOfNums_inj {l m : List Int} (hl : Byt l) (hm : Byt m) (h : (strOfNums l).toList = (strOfNums m).toList) : l = m := by
  rw [ByteArray.toList_eq, ByteArray.toList_eq, strOfNums_data, strOfNums_data] at h
  induction l generalizing m with
  | nil => cases m with
    | nil => rfl
    | cons y s => simp at h
  | cons x r ih => cases m with
    | nil => simp at h
    | cons y s =>
      simp only [List.map_cons, List.cons.injEq] at h
      obtain ⟨h1, h2⟩ := h
      have hx := hl x (by simp)
      have hy := hm y (by simp)
      have e : x.toNat = y.toNat := by
        have := congrArg UInt8.toNat h1
        simp only [UInt8.toNat_ofNat'] at this
        omega
      have : x = y := by omega
      subst this
      rw [ih (fun z hz => hl z (by simp [hz])) (fun z hz => hm z (by simp [hz])) h2]
theorem strOfNums_beq {l m : List Int} (hl : Byt l) (hm : Byt m) : ((strOfNums l).toList == (strOfNums m).toList) = decide (l = m) := by
  by_cases h : l = m
  · subst h; simp
  · have : (strOfNums l).toList ≠ (strOfNums m).toList := fun e => h (strOfNums_inj hl hm e)
    simp [h, this]

theorem run_append_sl {P : Program} (w : World) (base : Nat) (t ty e : TypeId) (i : TypeInfo) (z : Value) (size bytes : Nat) (ht : P.underlying t = some (.slice e)) (hi : P.info? e = some i) (hz : i.zero = some z)
    (hsize : i.size = size) (hby : i.bytes = bytes) (hzs : z.cells.size = size) (hsz : 0 < size)
    (v : Value) (n : Nat) (xs : List Value) (hown : w.ownsRow base e size v n xs)
    (A : Option Addr) (m c : Nat) (news : List Value) (hr : SlC w A news) (hl : news.length = m * size) (h1 : ∀ u ∈ news, u.oneCell' = true)
    (h63 : n + m ≤ maxLen) (hbytes : (n + m) * bytes ≤ 140737488355328) (hbase : base ≤ w.heap.size) :
    ∃ v' w', (Builtin.append_ #[t, t] ty #[v, .slice A m c]).run P w = .ok v' w' ∧ w'.ownsRow base e size v' (n + m) (xs ++ news) ∧ w.grownBy w' v.ownBlock ∧
      (v'.ownBlock = v.ownBlock ∨ v'.ownBlock = some w.heap.size) := by
  rcases A with _ | ad
  · have hn : news = [] := by
      cases news with
      | nil => rfl
      | cons u r => obtain ⟨a, ha, _⟩ := hr 0 u rfl; cases ha
    subst hn
    have hm : m = 0 := by
      rcases Nat.eq_zero_or_pos m with h0 | h0
      · exact h0
      · simp only [List.length_nil] at hl
        have := Nat.mul_pos h0 hsz
        omega
    subst hm
    refine ⟨v, w, ?_, by simpa using hown, ⟨rfl, rfl, rfl, Nat.le_refl _, fun _ _ _ => rfl⟩, .inl rfl⟩
    rcases hown.2 with ⟨rfl, rfl⟩ | ⟨g, cap, cur, rfl, _, _, hnc, _⟩
    · simp [Builtin.append_, run_underlying ht, sizeOf, typeInfo, hi, Builtin.lenOf, Builtin.firstCells]
    · simp [Builtin.append_, run_underlying ht, sizeOf, typeInfo, hi, Builtin.lenOf, Builtin.firstCells, hnc, storeCells]
  · have hcells : ∀ j u, news[j]? = some u → w.cell? (ad.add j) = some u := by
      intro j u hu
      obtain ⟨a, ha, hc⟩ := hr j u hu
      cases ha
      exact hc
    obtain ⟨v', w', hrun, h2, h3, _, h5⟩ := run_append_own_at (P := P) w base t ty e i z size bytes ht hi hz hsize hby hzs hsz v n xs hown ad m c news hl hcells h1 h63 hbytes hbase
    exact ⟨v', w', hrun, h2, h3, h5⟩
theorem wpList_append_sl {P : Program} {w : World} {ops : Array Oper} {rest : List Oper} {o : Oper} {a : Act} {Q : Exit → Act → World → Prop} (hgd : o.guard = none) (s x : Operand) (t : TypeId)
    (ho : o.op = .call { callee := .builtin .append, args := #[s, x], argTypes := #[t, t] })
    (base : Nat) (e : TypeId) (i : TypeInfo) (z : Value) (size bytes : Nat) (ht : P.underlying t = some (.slice e)) (hi : P.info? e = some i) (hz : i.zero = some z)
    (hsize : i.size = size) (hby : i.bytes = bytes) (hzs : z.cells.size = size) (hsz : 0 < size)
    (v : Value) (n : Nat) (xs : List Value) (hs : a.eval s = v) (hown : w.ownsRow base e size v n xs)
    (A : Option Addr) (m c : Nat) (news : List Value) (hx : a.eval x = .slice A m c) (hr : SlC w A news) (hl : news.length = m * size) (h1 : ∀ u ∈ news, u.oneCell' = true)
    (h63 : n + m ≤ maxLen) (hbytes : (n + m) * bytes ≤ 140737488355328) (hbase : base ≤ w.heap.size)
    (h : ∀ v' w', w'.ownsRow base e size v' (n + m) (xs ++ news) → w.grownBy w' v.ownBlock → (v'.ownBlock = v.ownBlock ∨ v'.ownBlock = some w.heap.size) → wpList P ops Q rest (a.put o.dst v') w') : wpList P ops Q (o :: rest) a w := by
  refine wpList_plain hgd fun K hK => ?_
  obtain ⟨v', w', hrun, h2, h3, h4⟩ := run_append_sl (P := P) w base t o.type e i z size bytes ht hi hz hsize hby hzs hsz v n xs hown A m c news hr hl h1 h63 hbytes hbase
  unfold Oper.wp execOp
  simp only [ho, resolve, invoke, builtin, Sem.run_bind, Sem.run_pure, Result.andThen_ok, List.map_toArray, List.map_cons, List.map_nil, hs, hx, hrun]
  exact hK _ _ (h v' w' h2 h3 h4)
theorem step_append_sl {P : Program} {w : World} {ops : Array Oper} {o : Oper} {a : Act} {K : Act → World → Prop} {Q : Exit → Act → World → Prop} {E : Prop} (hgd : o.guard = none) (s x : Operand) (t : TypeId)
    (ho : o.op = .call { callee := .builtin .append, args := #[s, x], argTypes := #[t, t] })
    (base : Nat) (e : TypeId) (i : TypeInfo) (z : Value) (size bytes : Nat) (ht : P.underlying t = some (.slice e)) (hi : P.info? e = some i) (hz : i.zero = some z)
    (hsize : i.size = size) (hby : i.bytes = bytes) (hzs : z.cells.size = size) (hsz : 0 < size)
    (v : Value) (n : Nat) (xs : List Value) (hs : a.eval s = v) (hown : w.ownsRow base e size v n xs)
    (A : Option Addr) (m c : Nat) (news : List Value) (hx : a.eval x = .slice A m c) (hr : SlC w A news) (hl : news.length = m * size) (h1 : ∀ u ∈ news, u.oneCell' = true)
    (h63 : n + m ≤ maxLen) (hbytes : (n + m) * bytes ≤ 140737488355328) (hbase : base ≤ w.heap.size)
    (h : ∀ v' w', w'.ownsRow base e size v' (n + m) (xs ++ news) → w.grownBy w' v.ownBlock → (v'.ownBlock = v.ownBlock ∨ v'.ownBlock = some w.heap.size) → K (a.put o.dst v') w') :
    if Region.wanted o (yielded ops a.tmps) = true then Oper.wp P o a w K Q else E := by
  have hw : Region.wanted o (yielded ops a.tmps) = true := by simp [Region.wanted, hgd]
  rw [if_pos hw]
  obtain ⟨v', w', hrun, h2, h3, h4⟩ := run_append_sl (P := P) w base t o.type e i z size bytes ht hi hz hsize hby hzs hsz v n xs hown A m c news hr hl h1 h63 hbytes hbase
  unfold Oper.wp execOp
  simp only [ho, resolve, invoke, builtin, Sem.run_bind, Sem.run_pure, Result.andThen_ok, List.map_toArray, List.map_cons, List.map_nil, hs, hx, hrun]
  exact h v' w' h2 h3 h4
/-- s[1:] of a slice that has an element. -/
theorem run_slice_from1 {P : Program} (w : World) (t e : TypeId) (i : TypeInfo) (ht : P.underlying t = some (.slice e)) (hi : P.info? e = some i) (hsz : i.size = 1) (A : Option Addr) (n c : Nat) (k : IntKind) (hn : 1 ≤ n) :
    (Instr.slice t (.slice A n c) (some (.int k 1)) none none).run P w = .ok (.slice (if c = 1 then A else A.map (·.add 1)) (n - 1) (c - 1)) w := by
  simp [Instr.slice, Instr.sliceBounds, Instr.sliceBound, run_underlying ht, asIntOf, sizeOf, typeInfo, hi, hsz, show (1 : Int) ≤ n from by omega]
theorem ints_one {k : IntKind} {l : List Int} : ∀ u ∈ l.map (Value.int k), u.oneCell' = true := by
  intro u hu
  obtain ⟨x, _, rfl⟩ := List.mem_map.1 hu
  rfl
/-- A row of the call's own is a slice that reads as its cells. -/
theorem own_sl {w : World} {base : Nat} {e : TypeId} {v : Value} {n : Nat} {xs : List Value} (h : w.ownsRow base e 1 v n xs) : ∃ A c, v = .slice A n c ∧ n ≤ c ∧ c ≤ maxLen ∧ (A = none → c = 0) ∧ SlC w A xs := by
  rcases h.2 with ⟨rfl, rfl⟩ | ⟨g, cap, cur, rfl, hb, hg, hn, hm, _, ht⟩
  · refine ⟨none, 0, rfl, Nat.le_refl _, by simp [maxLen], fun _ => rfl, ?_⟩
    have : xs = [] := List.eq_nil_of_length_eq_zero (by simpa using h.1)
    subst this
    exact SlC.nil _ _
  · exact ⟨some ⟨g, 0, none⟩, cap, rfl, hn, hm, (fun h => by cases h), fun j u hu => ⟨_, rfl, h.cells (g := g) rfl j u hu⟩⟩
end Go.Proofs.YtbaahbpianingaaDoor
namespace Acc
/-- The cards of a text, one by one: syntax 1, form 6, order 11. -/
def readGo (i : Nat) (last : Int) (out text : List Int) : List Int × (Int × Int) :=
  match _h : text with
  | [] => (out, (0, 0))
  | _ :: _ =>
    match readCard (text.take 10) with
    | none => ([], (1, (i : Int)))
    | some (a, v) => if v = 0 then ([], (6, (i : Int))) else if (a : Int) ≤ last then ([], (11, (i : Int))) else readGo (i + 1) a (out.set a v) (text.drop 10)
termination_by text.length
decreasing_by subst _h; simp; omega
def zeros : List Int := List.replicate 100 0
def readDeck (text : List Int) : List Int × (Int × Int) := if 1000 < text.length then ([], (3, -1)) else readGo 0 (-1) zeros text
theorem card_len {i : Nat} {v : Int} (hi : i < 100) (hv : v.natAbs < 100000) : (cardF i v).length = 10 := by
  unfold cardF
  rw [pad_dec (by omega) (by simpa using hi), pad_dec (by omega) (by simpa using hv)]
  simp [fix_len]
theorem readGo_nil (i : Nat) (last : Int) (out : List Int) : readGo i last out [] = (out, (0, 0)) := by rw [readGo]
theorem readGo_card {i : Nat} {last : Int} {out c t : List Int} (hc : c.length = 10) : readGo i last out (c ++ t) = match readCard c with
    | none => ([], (1, (i : Int)))
    | some (a, v) => if v = 0 then ([], (6, (i : Int))) else if (a : Int) ≤ last then ([], (11, (i : Int))) else readGo (i + 1) a (out.set a v) t := by
  match c, hc with
  | x :: r, hc =>
    rw [readGo.eq_def]
    simp only [List.cons_append]
    have h1 : (x :: (r ++ t)).take 10 = x :: r := by rw [← List.cons_append]; exact List.take_left' hc
    have h2 : (x :: (r ++ t)).drop 10 = t := by rw [← List.cons_append]; exact List.drop_left' hc
    rw [h1, h2]
theorem deckGo_append : ∀ (l r : List Int) (i : Nat), deckGo i (l ++ r) = deckGo i l ++ deckGo (i + l.length) r
  | [], r, i => by simp [deckGo]
  | v :: l, r, i => by
    rw [List.cons_append, deckGo, deckGo, deckGo_append l r (i + 1), List.append_assoc, List.length_cons]
    congr 3
    omega
theorem deckGo_zeros : ∀ (k i : Nat), deckGo i (List.replicate k 0) = []
  | 0, _ => rfl
  | k + 1, i => by rw [List.replicate_succ, deckGo, if_pos rfl, deckGo_zeros k]; rfl
theorem deckGo_len : ∀ (l : List Int) (i : Nat), i + l.length ≤ 100 → (∀ v ∈ l, five v = true) → (deckGo i l).length ≤ 10 * l.length
  | [], _, _, _ => by simp [deckGo]
  | v :: l, i, h, hv => by
    have h1 := five_iff.1 (hv v (by simp))
    have := deckGo_len l (i + 1) (by simp at h; omega) (fun x hx => hv x (by simp [hx]))
    rw [deckGo, List.length_append, List.length_cons]
    split
    · simp; omega
    · rw [card_len (by simp at h; omega) (by omega)]; omega
/-- What has been written is read. -/
theorem readGo_deck : ∀ (r pre : List Int) (i : Nat) (last : Int), pre.length + r.length ≤ 100 → (∀ v ∈ r, five v = true) → last < pre.length →
    readGo i last (pre ++ List.replicate (100 - pre.length) 0) (deckGo pre.length r) = (pre ++ r ++ List.replicate (100 - (pre.length + r.length)) 0, (0, 0))
  | [], pre, i, last, _, _, _ => by rw [deckGo, readGo_nil]; simp
  | v :: r, pre, i, last, h, hv, hl => by
    have h1 := five_iff.1 (hv v (by simp))
    have hlen : pre.length < 100 := by simp at h; omega
    have hrep : List.replicate (100 - pre.length) (0 : Int) = 0 :: List.replicate (100 - (pre.length + 1)) 0 := by
      rw [show 100 - pre.length = (100 - (pre.length + 1)) + 1 by omega, List.replicate_succ]
    have hpl : (pre ++ [v]).length = pre.length + 1 := by simp
    rw [deckGo]
    by_cases h0 : v = 0
    · subst h0
      rw [if_pos rfl, List.nil_append]
      have := readGo_deck r (pre ++ [0]) i last (by rw [hpl]; simp at h; omega) (fun x hx => hv x (by simp [hx])) (by rw [hpl]; omega)
      rw [hpl] at this
      rw [hrep]
      have e : pre ++ (0 : Int) :: List.replicate (100 - (pre.length + 1)) 0 = pre ++ [0] ++ List.replicate (100 - (pre.length + 1)) 0 := by simp
      rw [e, this]
      simp only [List.length_cons, List.append_assoc, List.cons_append, List.nil_append, Prod.mk.injEq, and_true]
      rw [show pre.length + 1 + r.length = pre.length + (r.length + 1) by omega]
    · rw [if_neg h0, readGo_card (card_len hlen (by omega)), readCard_card hlen (by omega)]
      simp only
      rw [if_neg h0, if_neg (by omega)]
      have := readGo_deck r (pre ++ [v]) (i + 1) pre.length (by rw [hpl]; simp at h; omega) (fun x hx => hv x (by simp [hx])) (by rw [hpl]; omega)
      rw [hpl] at this
      rw [hrep, List.set_append_right _ _ (Nat.le_refl _), Nat.sub_self, List.set_cons_zero]
      have e : pre ++ v :: List.replicate (100 - (pre.length + 1)) 0 = pre ++ [v] ++ List.replicate (100 - (pre.length + 1)) 0 := by simp
      rw [e, this]
      simp only [List.length_cons, List.append_assoc, List.cons_append, List.nil_append, Prod.mk.injEq, and_true]
      rw [show pre.length + 1 + r.length = pre.length + (r.length + 1) by omega]
theorem read_written {l : List Int} (h : l.length ≤ 100) (hv : ∀ v ∈ l, five v = true) : readDeck (deckText l) = (l ++ List.replicate (100 - l.length) 0, (0, 0)) := by
  unfold readDeck deckText
  have hl := deckGo_len l 0 (by omega) hv
  rw [if_neg (by omega)]
  have := readGo_deck l [] 0 (-1) (by simpa using h) hv (by simp)
  simpa [zeros] using this
/-- What has been read is written again. -/
theorem readGo_ok : ∀ (n : Nat) (text out : List Int) (i : Nat) (last : Int) (m : List Int), text.length ≤ n → out.length = 100 → (∀ v ∈ out, five v = true) → (∀ k : Nat, last < k → k < 100 → out[k]? = some 0) → -1 ≤ last →
    readGo i last out text = (m, (0, 0)) → deckText m = deckText out ++ text ∧ m.length = 100 ∧ ∀ v ∈ m, five v = true
  | n, [], out, i, last, m, _, ho, hv, _, _, h => by
    rw [readGo_nil] at h
    injection h with h
    subst h
    exact ⟨by simp, ho, hv⟩
  | n, x :: t, out, i, last, m, hn, ho, hv, hz, hl, h => by
    rw [readGo] at h
    match n, hn with
    | n + 1, hn =>
    cases hc : readCard ((x :: t).take 10) with
    | none => rw [hc] at h; cases h
    | some p =>
      obtain ⟨a, v⟩ := p
      rw [hc] at h
      simp only at h
      by_cases h0 : v = 0
      · rw [if_pos h0] at h; cases h
      rw [if_neg h0] at h
      by_cases h1 : (a : Int) ≤ last
      · rw [if_pos h1] at h; cases h
      rw [if_neg h1] at h
      obtain ⟨e1, e2, e3⟩ := card_readCard hc h0
      have hzs : ∀ k : Nat, a ≤ k → k < 100 → out[k]? = some 0 := fun k hk hk2 => hz k (by omega) hk2
      have hout : out = out.take a ++ 0 :: List.replicate (100 - (a + 1)) 0 := by
        apply List.ext_getElem?
        intro k
        by_cases hk : k < a
        · rw [List.getElem?_append_left (by simp; omega), List.getElem?_take, if_pos hk]
        · have hta : (out.take a).length = a := by simp; omega
          rw [List.getElem?_append_right (by omega), hta]
          by_cases hk2 : k < 100
          · rw [hzs k (by omega) hk2]
            rw [← List.replicate_succ, List.getElem?_replicate, if_pos (by omega)]
          · rw [List.getElem?_eq_none (by omega), ← List.replicate_succ, List.getElem?_replicate, if_neg (by omega)]
      have hset : out.set a v = out.take a ++ v :: List.replicate (100 - (a + 1)) 0 := by
        have hta : (out.take a).length = a := by simp; omega
        conv => lhs; rw [hout]
        rw [List.set_append_right _ _ (by omega), hta, Nat.sub_self, List.set_cons_zero]
      have hd : deckText (out.set a v) = deckText out ++ cardF a v := by
        have hta : (out.take a).length = a := by simp; omega
        rw [hset]
        conv => rhs; rw [hout]
        unfold deckText
        rw [deckGo_append, deckGo_append, hta, Nat.zero_add, deckGo, deckGo, if_neg h0, if_pos rfl, deckGo_zeros]
        simp
      obtain ⟨r1, r2, r3⟩ := readGo_ok n ((x :: t).drop 10) (out.set a v) (i + 1) a m (by simp at hn ⊢; omega) (by simpa using ho) (set_five hv (five_iff.2 (by omega))) (fun k hk hk2 => by rw [List.getElem?_set_ne (by omega)]; exact hz k (by omega) hk2) (by omega) h
      refine ⟨?_, r2, r3⟩
      rw [r1, hd, e1, List.append_assoc, List.take_append_drop]
theorem written_read {text m : List Int} (h : readDeck text = (m, (0, 0))) : deckText m = text ∧ m.length = 100 ∧ ∀ v ∈ m, five v = true := by
  unfold readDeck at h
  split at h
  · cases h
  · obtain ⟨a, b, c⟩ := readGo_ok text.length text zeros 0 (-1) m (Nat.le_refl _) (by simp [zeros]) (by intro v hv; rw [List.eq_of_mem_replicate hv]; rfl) (fun k _ hk => by unfold zeros; rw [List.getElem?_replicate, if_pos hk]) (by omega) h
    refine ⟨?_, b, c⟩
    rw [a]
    unfold deckText zeros
    rw [deckGo_zeros]
    rfl
end Acc
namespace Acc
theorem red_neg (n : Int) : red (-n) = -red n := Int.neg_tmod n 100000
theorem red_nat (n : Nat) : red (n : Int) = ((n % 100000 : Nat) : Int) := rfl
theorem red_mul_nat (m k : Nat) : red ((k : Int) * red (m : Int)) = red ((k : Int) * (m : Int)) := by
  rw [red_nat, ← Int.natCast_mul, ← Int.natCast_mul, red_nat, red_nat, Nat.mul_mod_mod]
theorem red_mul (n : Int) (k : Nat) : red ((k : Int) * red n) = red ((k : Int) * n) := by
  rcases Int.lt_or_le n 0 with h | h
  · obtain ⟨m, rfl⟩ : ∃ m : Nat, n = -(m : Int) := ⟨n.natAbs, by omega⟩
    rw [red_neg, Int.mul_neg, Int.mul_neg, red_neg, red_neg, red_mul_nat]
  · obtain ⟨m, rfl⟩ : ∃ m : Nat, n = (m : Int) := ⟨n.toNat, by omega⟩
    exact red_mul_nat m k
/-- The specification's shift to the left. -/
def itR : Nat → Int → Int
  | 0, a => a
  | k + 1, a => itR k (red (10 * a))
theorem itR_red : ∀ (k : Nat) (a : Int), five a = true → itR k a = red (((10 ^ k : Nat) : Int) * a)
  | 0, a, h => by rw [itR, Nat.pow_zero]; simp [red_self.2 h]
  | k + 1, a, _ => by
    rw [itR, itR_red k _ (red_five _), red_mul, Nat.pow_succ]
    congr 1
    rw [Int.natCast_mul, Int.mul_assoc]
    rfl
theorem red_big (a : Int) (k : Nat) (h : 5 ≤ k) : red (((10 ^ k : Nat) : Int) * a) = 0 := by
  unfold red
  obtain ⟨j, rfl⟩ : ∃ j, k = j + 5 := ⟨k - 5, by omega⟩
  rw [Nat.pow_add, Int.natCast_mul, Int.mul_assoc, Int.mul_comm ((10 ^ 5 : Nat) : Int) a, ← Int.mul_assoc]
  exact Int.mul_tmod_left _ _
theorem shiftF_nat (k : Nat) : shiftF (k : Int) = ((10 ^ (min k 5) : Nat) : Int) := by
  unfold shiftF
  have : (min (k : Int) 5).toNat = min k 5 := by omega
  rw [this, Int.natCast_pow]
  rfl
theorem itR_shift (k : Nat) (a : Int) (h : five a = true) : itR k a = red (a * shiftF (k : Int)) := by
  rw [itR_red k a h, shiftF_nat, Int.mul_comm a]
  rcases Nat.lt_or_ge k 5 with q | q
  · rw [Nat.min_eq_left (by omega)]
  · rw [red_big a k q, red_big a _ (by omega)]
/-- The specification's shift to the right. -/
def itD : Nat → Int → Int
  | 0, a => a
  | k + 1, a => itD k (a.tdiv 10)
theorem tdiv_nat (m k : Nat) : (m : Int).tdiv (k : Int) = ((m / k : Nat) : Int) := rfl
theorem itD_nat : ∀ (k m : Nat), itD k (m : Int) = ((m / 10 ^ k : Nat) : Int)
  | 0, m => by rw [itD, Nat.pow_zero, Nat.div_one]
  | k + 1, m => by
    rw [itD]
    have : (m : Int).tdiv 10 = ((m / 10 : Nat) : Int) := rfl
    rw [this, itD_nat k, Nat.div_div_eq_div_mul, Nat.pow_succ, Nat.mul_comm]
theorem itD_neg : ∀ (k : Nat) (a : Int), itD k (-a) = -itD k a
  | 0, _ => rfl
  | k + 1, a => by rw [itD, itD, Int.neg_tdiv, itD_neg k]
theorem itD_shift (k : Nat) (a : Int) (h : five a = true) : itD k a = a.tdiv (shiftF (k : Int)) := by
  rw [five_iff] at h
  rw [shiftF_nat]
  have key : ∀ m : Nat, m ≤ 99999 → m / 10 ^ k = m / 10 ^ (min k 5) := by
    intro m hm
    rcases Nat.lt_or_ge k 5 with q | q
    · rw [Nat.min_eq_left (by omega)]
    · have h5 : m < 10 ^ 5 := by omega
      have hk : m < 10 ^ k := Nat.lt_of_lt_of_le h5 (Nat.pow_le_pow_right (by omega) q)
      rw [Nat.min_eq_right q, Nat.div_eq_of_lt hk, Nat.div_eq_of_lt h5]
  rcases Int.lt_or_le a 0 with q | q
  · obtain ⟨m, rfl⟩ : ∃ m : Nat, a = -(m : Int) := ⟨a.natAbs, by omega⟩
    rw [itD_neg, itD_nat, Int.neg_tdiv, tdiv_nat, key m (by omega)]
  · obtain ⟨m, rfl⟩ : ∃ m : Nat, a = (m : Int) := ⟨a.toNat, by omega⟩
    rw [itD_nat, tdiv_nat, key m (by omega)]
theorem over_five (n : Int) : decide (red n ≠ n) = !five n := by
  cases h : five n with
  | true => simp [red_self.2 h]
  | false =>
    have : red n ≠ n := fun e => by rw [red_self.1 e] at h; cases h
    simp [this]
end Acc
namespace Acc
open Go
theorem dec_digits (n : Nat) : Lib.decDigits n = (dec n).map fun c => UInt8.ofNat c.toNat := by
  induction n using Nat.strongRecOn with
  | ind n ih =>
    by_cases h : n < 10
    · rw [Lib.decDigits, dif_pos h, dec_small h]
      simp only [List.map_cons, List.map_nil]
      congr 2
    · rw [Lib.decDigits, dif_neg h, dec_big h, ih (n / 10) (by omega), List.map_append]
      simp only [List.map_cons, List.map_nil]
      congr 3
theorem itoa_signed (n : Int) : (⟨(Lib.itoa n).toArray⟩ : ByteArray) = strOfNums (signed n) := by
  unfold Lib.itoa signed strOfNums
  split
  · rename_i h
    rw [dec_digits, show n.natAbs = (-n).toNat by omega]
    rfl
  · rw [dec_digits]
theorem dec_byt (n : Nat) : ∀ c ∈ dec n, 48 ≤ c ∧ c ≤ 57 := by
  induction n using Nat.strongRecOn with
  | ind n ih =>
    by_cases h : n < 10
    · rw [dec_small h]; intro c hc; rw [List.mem_singleton.1 hc]; omega
    · rw [dec_big h]
      intro c hc
      rcases List.mem_append.1 hc with e | e
      · exact ih (n / 10) (by omega) c e
      · rw [List.mem_singleton.1 e]; omega
theorem signed_byt (n : Int) : ∀ c ∈ signed n, 0 ≤ c ∧ c < 256 := by
  unfold signed
  split
  · intro c hc
    rcases List.mem_cons.1 hc with e | e
    · omega
    · have := dec_byt _ c e; omega
  · intro c hc; have := dec_byt _ c hc; omega
end Acc
namespace Acc
theorem prod_whole (n : Int) : red n + 100000 * n.tdiv 100000 = n ∧ 0 ≤ red n * n.tdiv 100000 := by
  refine ⟨Int.tmod_add_mul_tdiv n 100000, ?_⟩
  unfold red
  rcases Int.lt_or_le n 0 with h | h
  · obtain ⟨m, rfl⟩ : ∃ m : Nat, n = -(m : Int) := ⟨n.natAbs, by omega⟩
    rw [Int.neg_tmod, Int.neg_tdiv, Int.neg_mul_neg]
    exact Int.mul_nonneg (Int.tmod_nonneg _ (by omega)) (Int.tdiv_nonneg (by omega) (by omega))
  · exact Int.mul_nonneg (Int.tmod_nonneg _ h) (Int.tdiv_nonneg h (by omega))
theorem div_whole (a m : Int) (h : m ≠ 0) : a.tdiv m * m + a.tmod m = a ∧ (a.tmod m).natAbs < m.natAbs ∧ 0 ≤ a.tmod m * a := by
  refine ⟨by rw [Int.mul_comm]; exact Int.mul_tdiv_add_tmod a m, ?_, ?_⟩
  · rw [Int.natAbs_tmod]
    exact Nat.mod_lt _ (by omega)
  · rcases Int.lt_or_le a 0 with q | q
    · obtain ⟨k, rfl⟩ : ∃ k : Nat, a = -(k : Int) := ⟨a.natAbs, by omega⟩
      rw [Int.neg_tmod, Int.neg_mul_neg]
      exact Int.mul_nonneg (Int.tmod_nonneg _ (by omega)) (by omega)
    · exact Int.mul_nonneg (Int.tmod_nonneg _ q) q
end Acc
