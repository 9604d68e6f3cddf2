import Derived.Test.YtnijfndpefkoeaaRnA
import Derived.MapKept
import Derived.WideMake
namespace Go.Proofs.Ytnijfndpefkoeaa
open Go Go.Proofs Go.RowKit
set_option maxHeartbeats 3200000
set_option maxRecDepth 100000
/-- A map with numbers for keys: its entries (key, value, born). -/
abbrev Ent := Int × Value × Nat
def mkE (m : Ent) : MapEntry := { key := .int .i64 m.1, val := m.2.1, born := m.2.2 }
def fnd (y : Int) : List Ent → Nat → Option (Nat × Value)
  | [], _ => none
  | m :: M, i => if m.1 = y then some (i, m.2.1) else fnd y M (i + 1)
theorem findNow_fnd (y : Int) : ∀ (M : List Ent) (i : Nat), Instr.findNow (.int .i64) (.int .i64 y) (M.map mkE) i = some (fnd y M i)
  | [], _ => rfl
  | m :: M, i => by
    have ih := findNow_fnd y M (i + 1)
    show (match Instr.sameNow (.int .i64) (.int .i64 y) (.int .i64 m.1) with | some true => _ | some false => _ | none => _) = _
    unfold Instr.sameNow
    simp only [if_pos]
    by_cases h : m.1 = y
    · have e : (y == m.1) = true := by simp [h]
      rw [e]
      show some (some (i, m.2.1)) = _
      rw [fnd, if_pos h]
    · have e : (y == m.1) = false := by simp; exact fun q => h q.symm
      rw [e]
      show Instr.findNow (.int .i64) (.int .i64 y) (M.map mkE) (i + 1) = _
      rw [ih, fnd, if_neg h]
def valM (M : List Ent) (y : Int) : Option Value := (fnd y M 0).map (·.2)
theorem fnd_shift (y : Int) : ∀ (M : List Ent) (i : Nat), (fnd y M i).map (·.2) = (fnd y M 0).map (·.2)
  | [], _ => rfl
  | m :: M, i => by
    rw [fnd, fnd]
    split
    · rfl
    · rw [fnd_shift y M (i + 1), fnd_shift y M (0 + 1)]
theorem fnd_at {y : Int} : ∀ {M : List Ent} {i k : Nat} {v : Value}, fnd y M i = some (k, v) → i ≤ k ∧ ∃ b, M[k - i]? = some (y, v, b)
  | [], _, _, _, h => by simp [fnd] at h
  | m :: M, i, k, v, h => by
    rw [fnd] at h
    split at h
    · rename_i e
      injection h with h
      injection h with h1 h2
      subst h1 h2
      refine ⟨Nat.le_refl _, m.2.2, ?_⟩
      rw [Nat.sub_self, ← e]
      rfl
    · obtain ⟨h1, b, h2⟩ := fnd_at h
      refine ⟨by omega, b, ?_⟩
      rw [show k - i = (k - (i + 1)) + 1 by omega]
      exact h2
theorem val_set {y : Int} : ∀ {M : List Ent} {i k : Nat} {v : Value}, fnd y M i = some (k, v) → ∀ (u : Value) (b : Nat) (z : Int), (fnd z (M.set (k - i) (y, u, b)) i).map (·.2) = if z = y then some u else (fnd z M i).map (·.2)
  | [], _, _, _, h => by simp [fnd] at h
  | m :: M, i, k, v, h => by
    intro u b z
    have h0 := h
    rw [fnd] at h
    split at h
    · rename_i e
      injection h with h
      injection h with h1 h2
      subst h1
      rw [Nat.sub_self, List.set_cons_zero, fnd, fnd]
      by_cases q : z = y
      · rw [if_pos q, if_pos q.symm]; rfl
      · rw [if_neg q, if_neg (fun r => q r.symm), if_neg (fun r => q (by rw [← r, e]))]
    · rename_i hne
      have h1 := (fnd_at h).1
      rw [show k - i = (k - (i + 1)) + 1 by omega, List.set_cons_succ, fnd, fnd]
      by_cases q : m.1 = z
      · have : z ≠ y := fun r => hne (by rw [q, r])
        rw [if_pos q, if_neg this, if_pos q]
      · rw [if_neg q, if_neg q]
        exact val_set h u b z
theorem val_app {y : Int} : ∀ {M : List Ent} {i : Nat}, fnd y M i = none → ∀ (u : Value) (b : Nat) (z : Int), (fnd z (M ++ [(y, u, b)]) i).map (·.2) = if z = y then some u else (fnd z M i).map (·.2)
  | [], i, _ => by
    intro u b z
    show (if y = z then some (i, u) else none).map (·.2) = _
    by_cases q : z = y
    · rw [if_pos q, if_pos q.symm]; rfl
    · have q2 : ¬ y = z := fun r => q r.symm
      rw [if_neg q, if_neg q2]; rfl
  | m :: M, i, h => by
    intro u b z
    rw [fnd] at h
    split at h
    · cases h
    · rename_i hne
      rw [List.cons_append, fnd, fnd]
      by_cases q : m.1 = z
      · have : z ≠ y := fun r => hne (by rw [q, r])
        rw [if_pos q, if_neg this, if_pos q]
      · rw [if_neg q, if_neg q]
        exact val_app h u b z
/-- The block of a map whose values are told by val. -/
def MapAt (W : World) (gB : Nat) (val : Int → Option Value) : Prop := ∃ M clock, W.heap[gB]? = some (.map (M.map mkE).toArray clock) ∧ ∀ z, valM M z = val z
theorem MapAt.keep {W W2 : World} {gB : Nat} {val : Int → Option Value} (h : MapAt W gB val) (hk : W2.heap[gB]? = W.heap[gB]?) : MapAt W2 gB val := by
  obtain ⟨M, c, h1, h2⟩ := h
  exact ⟨M, c, by rw [hk]; exact h1, h2⟩
theorem MapAt.lt {W : World} {gB : Nat} {val : Int → Option Value} (h : MapAt W gB val) : gB < W.heap.size := by
  obtain ⟨M, c, h1, _⟩ := h
  exact (Array.getElem?_eq_some_iff.1 h1).1
theorem map_new (w : World) : MapAt (w.alloc (.map #[] 0)) w.heap.size (fun _ => none) := ⟨[], 0, heap_alloc_new w _, fun _ => rfl⟩
theorem checkKey_int (e : Bool) (y : Int) (w : World) : (Instr.checkKey e 10000 3 (.int .i64 y)).run Try.prog w = .ok () w := MapKept.run_checkKey (k := .int .i64 y) Try.underlying3 (by simp [MapKept.IsKey]) e 9999
theorem run_lookup_i {W : World} {gB : Nat} {val : Int → Option Value} (h : MapAt W gB val) (y : Int) : (Instr.lookup 67 (.map (some gB)) (.int .i64 y) false).run Try.prog W = .ok ((val y).getD (.slice none 0 0)) W := by
  obtain ⟨M, c, h1, h2⟩ := h
  have hf : (Instr.findKey 3 (.int .i64 y) (M.map mkE)).run Try.prog W = .ok (fnd y M 0) W := MapKept.run_findKey Try.underlying3 (findNow_fnd y M 0)
  have hv := h2 y
  unfold valM at hv
  have hz : (zeroValue 68).run Try.prog W = .ok (.slice none 0 0) W := by kernel_rfl
  cases hq : fnd y M 0 with
  | none =>
    rw [hq] at hf hv
    have hv2 : val y = none := by rw [← hv]; rfl
    simp [Instr.lookup, run_underlying Try.underlying67, MapKept.run_getObj_map h1, checkKey_int, hf, hz, hv2, Result.andThen]
  | some p =>
    obtain ⟨k, v⟩ := p
    rw [hq] at hf hv
    have hv2 : val y = some v := by rw [← hv]; rfl
    simp [Instr.lookup, run_underlying Try.underlying67, MapKept.run_getObj_map h1, checkKey_int, hf, hv2, Result.andThen]
/-- The map behind a store. -/
structure MapTo (W W2 : World) (gB : Nat) (val : Int → Option Value) (y : Int) (v : Value) : Prop where
  at_ : MapAt W2 gB (fun z => if z = y then some v else val z)
  grown : W.grownBy W2 (some gB)
theorem grown_setMap {W : World} {gB : Nat} {o o' : Obj} (h : W.heap[gB]? = some o) : W.grownBy { W with heap := W.heap.setIfInBounds gB o' } (some gB) :=
  ⟨rfl, rfl, rfl, by simp, fun k _ hne => (MapKept.heap_set h).2 k (fun q => hne (by rw [q]))⟩
theorem run_update_i {W : World} {gB : Nat} {val : Int → Option Value} (h : MapAt W gB val) (y : Int) (v : Value) : ∃ W2, (Instr.mapUpdate 67 (.map (some gB)) (.int .i64 y) v).run Try.prog W = .ok () W2 ∧ MapTo W W2 gB val y v := by
  obtain ⟨M, c, h1, h2⟩ := h
  have hf : (Instr.findKey 3 (.int .i64 y) (M.map mkE)).run Try.prog W = .ok (fnd y M 0) W := MapKept.run_findKey Try.underlying3 (findNow_fnd y M 0)
  cases hq : fnd y M 0 with
  | none =>
    rw [hq] at hf
    refine ⟨{ W with heap := W.heap.setIfInBounds gB (.map ((M ++ [(y, v, c)]).map mkE).toArray (c + 1)) }, ?_, ⟨M ++ [(y, v, c)], c + 1, (MapKept.heap_set h1).1, fun z => ?_⟩, grown_setMap h1⟩
    · have e : ((M ++ [(y, v, c)]).map mkE).toArray = (M.map mkE).toArray.push { key := .int .i64 y, val := v, born := c } := by simp [mkE]
      rw [e]
      simp [Instr.mapUpdate, run_underlying Try.underlying67, MapKept.run_getObj_map h1, checkKey_int, hf, MapKept.run_setObj_map _ h1, Result.andThen]
    · unfold valM
      rw [val_app hq v c z]
      show _ = if z = y then some v else val z
      rw [← h2 z]
      rfl
  | some p =>
    obtain ⟨k, u⟩ := p
    rw [hq] at hf
    obtain ⟨_, b, hb⟩ := fnd_at hq
    rw [Nat.sub_zero] at hb
    have hk := (List.getElem?_eq_some_iff.1 hb)
    refine ⟨{ W with heap := W.heap.setIfInBounds gB (.map ((M.set k (y, v, b)).map mkE).toArray c) }, ?_, ⟨M.set k (y, v, b), c, (MapKept.heap_set h1).1, fun z => ?_⟩, grown_setMap h1⟩
    · have e : ((M.set k (y, v, b)).map mkE).toArray = (M.map mkE).toArray.modify k (fun e => { e with key := .int .i64 y, val := v }) := by
        apply Array.ext'
        rw [Array.toList_modify]
        show (M.set k (y, v, b)).map mkE = (M.map mkE).modify k _
        apply List.ext_getElem?
        intro j
        rw [List.getElem?_map, List.getElem?_set, List.getElem?_modify, List.getElem?_map]
        by_cases q : k = j
        · subst q
          rw [if_pos rfl, if_pos hk.1, hb]
          simp [mkE]
        · rw [if_neg q]
          simp [q]
      have hkey : (((M.map mkE).toArray[k]?).map (·.key)).getD (.int .i64 y) = .int .i64 y := by
        rw [List.getElem?_toArray, List.getElem?_map, hb]
        rfl
      have hst : (Instr.keyThatStays (.int .i64 y) (.int .i64 y)).run Try.prog W = .ok (.int .i64 y) W := by
        have : Instr.sameBits 10000 (.int .i64 y) (.int .i64 y) = true := by simp [Instr.sameBits]
        simp [Instr.keyThatStays, this]
      rw [e]
      have hkey2 : (((M.map mkE).toArray[k]?).map fun x => x.key).getD (.int .i64 y) = .int .i64 y := hkey
      simp only [Instr.mapUpdate, Sem.run_bind, run_underlying Try.underlying67, MapKept.run_getObj_map h1, checkKey_int, hf, Result.andThen, hkey2, hst, MapKept.run_setObj_map _ h1]
    · unfold valM
      have := val_set hq v b z
      rw [Nat.sub_zero] at this
      rw [this]
      show _ = if z = y then some v else val z
      rw [← h2 z]
      rfl
theorem wpList_lookup_i {w : World} {ops : Array Oper} {rest : List Oper} {o : Oper} {a : Act} {Q : Exit → Act → World → Prop} (hgd : o.guard = none) (m x : Operand) (ho : o.op = .lookup 67 m x false) (gB : Nat) (val : Int → Option Value) (h : MapAt w gB val)
    (hm : a.eval m = .map (some gB)) (y : Int) (hx : a.eval x = .int .i64 y) (v : Value) (hv : (val y).getD (.slice none 0 0) = v) (hK : wpList Try.prog ops Q rest (a.put o.dst v) w) : wpList Try.prog ops Q (o :: rest) a w := by
  refine wpList_plain hgd fun K hK' => ?_
  unfold Oper.wp
  simp [execOp, ho, hm, hx, run_lookup_i h y, hv, Result.andThen]
  exact hK' _ _ hK
theorem wpList_update_i {w : World} {ops : Array Oper} {rest : List Oper} {o : Oper} {a : Act} {Q : Exit → Act → World → Prop} (hgd : o.guard = none) (m x u : Operand) (ho : o.op = .mapUpdate 67 m x u) (gB : Nat) (val : Int → Option Value) (h : MapAt w gB val)
    (hm : a.eval m = .map (some gB)) (y : Int) (hx : a.eval x = .int .i64 y) (v : Value) (hv : a.eval u = v) (hK : ∀ W2, MapTo w W2 gB val y v → wpList Try.prog ops Q rest (a.put o.dst undef) W2) : wpList Try.prog ops Q (o :: rest) a w := by
  refine wpList_plain hgd fun K hK' => ?_
  obtain ⟨W2, hr, ht⟩ := run_update_i h y v
  unfold Oper.wp
  simp [execOp, ho, hm, hx, hv, hr, Result.andThen]
  exact hK' _ _ (hK W2 ht)
end Go.Proofs.Ytnijfndpefkoeaa
