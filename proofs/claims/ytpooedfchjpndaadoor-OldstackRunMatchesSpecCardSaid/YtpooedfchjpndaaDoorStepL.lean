import Derived.Test.YtpooedfchjpndaaDoorStep1
import Derived.Deep.DeepCutAuto
import Derived.BigRegion
import Derived.Deep.RegionLaw
namespace Go.Proofs.YtpooedfchjpndaaDoor
open Go Go.Proofs Go.RowKit
set_option maxHeartbeats 3200000
set_option maxRecDepth 100000
def opnd (l : List Int) : Int := l.foldl (fun a c => 256 * a + c) 0
/-- s[l:h] -/
theorem run_slice_lh' {P : Program} (w : World) (t e : TypeId) (i : TypeInfo) (ht : P.underlying t = some (.slice e)) (hi : P.info? e = some i) (hsz : i.size = 1) (A : Option Addr) (n c l h : Nat) (k k' : IntKind) (hl : l ≤ h) (hh : h ≤ c) :
    (Instr.slice t (.slice A n c) (some (.int k (l : Int))) (some (.int k' (h : Int))) none).run P w = .ok (.slice (if c = l then A else A.map (·.add l)) (h - l) (c - l)) w := by
  simp [Instr.slice, Instr.sliceBounds, Instr.sliceBound, run_underlying ht, asIntOf, sizeOf, typeInfo, hi, hsz, hl, hh]
theorem opnd_append (l : List Int) (y : Int) : opnd (l ++ [y]) = 256 * opnd l + y := by simp [opnd]
theorem opnd_step {bs : List Int} {j : Nat} {y : Int} (hy : bs[j]? = some y) : opnd (bs.take (j + 1)) = 256 * opnd (bs.take j) + y := by
  obtain ⟨hl, rfl⟩ := List.getElem?_eq_some_iff.1 hy
  rw [List.take_succ_eq_append_getElem hl, opnd_append]
theorem opnd_small {bs : List Int} (hb : Byt bs) {j : Nat} (hj : j ≤ 1) : 0 ≤ opnd (bs.take j) ∧ opnd (bs.take j) ≤ 255 := by
  match bs, j, hj with
  | [], 0, _ => simp [opnd]
  | [], 1, _ => simp [opnd]
  | y :: r, 0, _ => simp [opnd]
  | y :: r, 1, _ => have := hb y (by simp); simp [opnd]; omega
theorem opnd_operand {s : St} {at' sz : Nat} {x : Int} (hat : s.at_ = at') (hsz : sizeOp x = sz) (hop : opOf s = x) (hl : at' + 1 + sz ≤ s.image.length) : opnd ((s.image.drop (at' + 1)).take sz) = operandF s := by
  have e0 : s.at_.toNat = at' := by omega
  unfold operandF
  rw [hop, e0]
  unfold sizeOp at hsz
  by_cases h1 : x = 1
  · rw [if_pos h1] at hsz ⊢
    have hsz' : sz = 2 := by omega
    subst hsz'
    have e : (s.image.drop (at' + 1)).take 2 = [s.image[at' + 1], s.image[at' + 2]] := by
      rw [List.drop_eq_getElem_cons (by omega), List.drop_eq_getElem_cons (by omega)]; rfl
    rw [e, List.getElem?_eq_getElem (by omega : at' + 1 < s.image.length), List.getElem?_eq_getElem (by omega : at' + 2 < s.image.length)]
    simp [opnd]
  · rw [if_neg h1] at hsz ⊢
    by_cases h2 : x = 16 ∨ x = 17 ∨ x = 18
    · rw [if_pos h2] at hsz ⊢
      have hsz' : sz = 1 := by omega
      subst hsz'
      have e : (s.image.drop (at' + 1)).take 1 = [s.image[at' + 1]] := by
        rw [List.drop_eq_getElem_cons (by omega)]; rfl
      rw [e, List.getElem?_eq_getElem (by omega : at' + 1 < s.image.length)]
      simp [opnd]
    · rw [if_neg h2] at hsz ⊢
      have hsz' : sz = 0 := by omega
      subst hsz'
      simp [opnd]
theorem ofInt_i64' (a : Nat) (ha : a < 9223372036854775808) : (BitVec.ofInt 64 (a : Int)).toNat = a := by
  rw [BitVec.ofInt_natCast, BitVec.toNat_ofNat]; exact Nat.mod_eq_of_lt (by omega)
theorem or_byte {v y : Int} (v0 : 0 ≤ v) (v1 : v ≤ 255) (y0 : 0 ≤ y) (y1 : y < 256) : bits .or .i64 (v * 256) y = 256 * v + y := by
  obtain ⟨a, rfl⟩ := Int.eq_ofNat_of_zero_le v0
  obtain ⟨c, rfl⟩ := Int.eq_ofNat_of_zero_le y0
  have e1 : (a : Int) * 256 = ((256 * a : Nat) : Int) := by omega
  rw [e1]
  show IntKind.i64.wrap ((BitVec.ofInt 64 ((256 * a : Nat) : Int) ||| BitVec.ofInt 64 (c : Int)).toNat : Int) = _
  rw [BitVec.toNat_or, ofInt_i64' (256 * a) (by omega), ofInt_i64' c (by omega), ← Nat.two_pow_add_eq_or_of_lt (i := 8) (by omega) a, IntKind.wrap_i64]
  omega
section
variable {w : World} {bm : Nat} {s : St} {cs : Array Value} {vd vr vo : Value}
theorem step_trunc (h : MachIs w bm s cs vd vr vo) {A : Option Addr} {c : Nat} (hv : vd = .slice A s.data.length c) {n : Nat} (hn : n ≤ s.data.length) :
    MachIs (w.drew.setCell ⟨bm, 2, none⟩ (.slice A n c)) bm { s with data := s.data.take n } (cs.setIfInBounds 2 (.slice A n c)) (.slice A n c) vr vo := by
  obtain ⟨A', c', h1, h2, h3, h4⟩ := own_take h.datao hn
  rw [hv] at h1
  cases h1
  refine (h.ext (w' := w.drew) ((Ext.refl w).drew)).newData ⟨?_, ⟨rfl, rfl, rfl, Nat.le_refl _, fun _ _ _ => rfl⟩, .inl h4⟩
  rw [List.length_take, Nat.min_eq_left hn, List.map_take]
  exact h3
theorem ite_p {α : Type} {P : α → Prop} {c : Prop} [Decidable c] {a b : α} (ha : P a) (hb : P b) : P (if c then a else b) := by split <;> assumption
theorem eff_both (s : St) (op n a b : Int) : (effF s op n a b).1.length ≤ 3 ∧ (effF s op n a b).2.data = s.data := by
  let Q : List Int × St → Prop := fun r => r.1.length ≤ 3 ∧ r.2.data = s.data
  show Q (effF s op n a b)
  unfold effF
  refine ite_p ⟨by simp, rfl⟩ (ite_p ⟨by simp, rfl⟩ (ite_p ⟨by simp, rfl⟩ (ite_p ⟨by simp, rfl⟩ (ite_p ⟨by simp, rfl⟩ (ite_p ⟨by simp, rfl⟩ (ite_p ⟨by simp, rfl⟩ (ite_p ⟨by simp, ?_⟩ (ite_p ⟨by simp, rfl⟩ (ite_p ⟨by simp, rfl⟩ (ite_p ⟨by simp, rfl⟩ (ite_p ⟨by simp, rfl⟩ (ite_p ?_ (ite_p ⟨by simp, rfl⟩ ⟨by simp, rfl⟩)))))))))))))
  · show (if b = 0 then { s with at_ := n } else s).data = s.data
    split <;> rfl
  · cases s.input with
    | nil => exact ⟨by simp, rfl⟩
    | cons x r => exact ⟨by simp, rfl⟩
theorem eff_len (s : St) (op n a b : Int) : (effF s op n a b).1.length ≤ 3 := (eff_both s op n a b).1
theorem eff_data (s : St) (op n a b : Int) : (effF s op n a b).2.data = s.data := (eff_both s op n a b).2
theorem topF_range {l : List Int} (h : Half l) (d : Nat) : 0 ≤ topF l d ∧ topF l d < 65536 := by
  unfold topF
  split
  · rw [List.getElem?_eq_getElem (by omega)]
    exact h _ (List.getElem_mem _)
  · omega
theorem byte_range {s : St} (k : OkSt s) (i : Nat) : 0 ≤ s.image[i]?.getD 0 ∧ s.image[i]?.getD 0 < 256 := by
  rcases Nat.lt_or_ge i s.image.length with h | h
  · rw [List.getElem?_eq_getElem h]; exact k.wf.image _ (List.getElem_mem _)
  · rw [List.getElem?_eq_none h]; simp
theorem operandF_range {s : St} (k : OkSt s) : 0 ≤ operandF s ∧ operandF s < 65536 := by
  have h1 := byte_range k (s.at_.toNat + 1)
  have h2 := byte_range k (s.at_.toNat + 2)
  unfold operandF
  split
  · omega
  · split <;> omega
theorem eff_ok {s : St} (k : OkSt s) {x b0 b1 : Int} {t l beh : Int} {il : Nat} {at' : Int} {d : List Int} (hso : obstF t l x beh il s.data.length s.ret.length (topF s.data 0) s.output.length = 0) (_hz : stopOf s = 0) (_hop : opOf s = x) (h0 : topF s.data 0 = b0) (h1 : topF s.data 1 = b1) (x0 : 0 ≤ x) (x1 : x < 24) : EffOk { s with at_ := at', data := d } x (operandF s) b1 b0 := by
  have r0 := topF_range k.wf.data 0
  have r1 := topF_range k.wf.data 1
  rw [h0] at r0 hso
  rw [h1] at r1
  have hall : ¬ ((x = 20 ∨ x = 21) ∧ 32 ≤ b0) ∧ ¬ ((x = 9 ∨ x = 10) ∧ b0 = 0) ∧ ¬ (x = 19 ∧ s.ret.length = 0) := by
    unfold obstF at hso
    repeat' split at hso
    all_goals first | (exfalso; omega) | (refine ⟨?_, ?_, ?_⟩ <;> omega)
  exact ⟨x0, x1, operandF_range k, r1, r0, by omega, by omega, by show x = 19 → 1 ≤ s.ret.length; omega, k.rl, k.ol, k.wf.input⟩
theorem data_blk (h : MachIs w bm s cs vd vr vo) {A : Option Addr} {n c : Nat} (hv : vd = .slice A n c) {w1 : World} (hg : w.grownBy w1 (Value.slice A n c).ownBlock) : w1.heap[bm]? = w.heap[bm]? :=
  hg.block bm h.lt (by rw [← hv]; exact Ne.symm (own_ne h.datao h.blk (by decide)))
theorem data_cell (h : MachIs w bm s cs vd vr vo) {A : Option Addr} {n c : Nat} (hv : vd = .slice A n c) {w1 : World} (hg : w.grownBy w1 (Value.slice A n c).ownBlock) : w1.cell? ⟨bm, 2, none⟩ = some (.slice A n c) := by
  rw [World.cell?_of_block (w := w) (data_blk h hv hg), h.cell, h.data, hv]
theorem data_frozen (h : MachIs w bm s cs vd vr vo) {A : Option Addr} {n c : Nat} (hv : vd = .slice A n c) {w1 : World} (hg : w.grownBy w1 (Value.slice A n c).ownBlock) : w1.frozen? ⟨bm, 2, none⟩ = false := by
  rw [World.frozen?_of_block (w := w) (data_blk h hv hg), h.frozen]
theorem step_row {w1 : World} {A A' : Option Addr} {l news : List Int} {c c' : Nat} (ho : w1.ownsRow bm 25 1 (.slice A' (l.length + news.length) c') (l.length + news.length) (l.map (Value.int .u16) ++ news.map (Value.int .u16)))
    (hg : w.grownBy w1 (Value.slice A l.length c).ownBlock) (hat : (Value.slice A' (l.length + news.length) c').ownBlock = (Value.slice A l.length c).ownBlock ∨ (Value.slice A' (l.length + news.length) c').ownBlock = some w.heap.size) (hv : vd = .slice A l.length c) :
    RowTo w w1 bm 25 vd (.slice A' (l.length + news.length) c') (l ++ news).length ((l ++ news).map (Value.int .u16)) := by
  subst hv
  refine ⟨by simpa using ho, hg, ?_⟩
  rcases hat with h1 | h1
  · exact .inl h1
  · exact .inr ⟨_, h1, Nat.le_refl _⟩
theorem hg3_below (h : MachIs w bm s cs vd vr vo) {A : Option Addr} {n c : Nat} (hv : vd = .slice A n c) {w1 : World} (hg : w.grownBy w1 (Value.slice A n c).ownBlock) : Below bm w w1 :=
  (Below.refl bm w).grown hg (Nat.le_of_lt h.lt) (fun k hk => (own_lt h.datao (by rw [hv]; exact hk)).1)
theorem step_call {P : Program} {W : World} {ops : Array Oper} {o : Oper} {a : Act} {K : Act → World → Prop} {Q : Exit → Act → World → Prop} {E : Prop} (hgd : o.guard = none) (f : FuncId) (args : List Operand) (ts : Array TypeId)
    (ho : o.op = .call { callee := .value (.func f), args := args.toArray, argTypes := ts }) (vs : List Value) (hvs : args.map a.eval = vs) (hf : ∀ W : World, (callFunc f vs.toArray).run P W = .ok (.enter f vs.toArray) W) {R : Ending → World → Prop} (hc : Calls P f vs.toArray W R)
    (h : ∀ e w', R e w' → ∃ v, e = .returned v ∧ K (a.put o.dst v) w') : if Region.wanted o (yielded ops a.tmps) = true then Oper.wp P o a W K Q else E := by
  have hw : Region.wanted o (yielded ops a.tmps) = true := by simp [Region.wanted, hgd]
  rw [if_pos hw]
  unfold Oper.wp
  have hr : (execOp a.eval o).run P W = .ok (.enter f vs.toArray) W := by
    rw [← hf W, ← hvs]
    simp [execOp, ho, resolve, Deferred.ofValue, Act.eval, invoke]
  rw [hr]
  exact hc.mono fun e w' hR => by
    obtain ⟨v, rfl, hk⟩ := h e w' hR
    exact hk
end
end Go.Proofs.YtpooedfchjpndaaDoor
