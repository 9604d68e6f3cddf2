import Derived.Test.YtnijfndpefkoeaaRnBt
import Derived.Test.YtnijfndpefkoeaaRnY
import Derived.Test.YtnijfndpefkoeaaRenK
namespace Go.Proofs.Ytnijfndpefkoeaa
open Go Go.Proofs Go.RowKit
set_option maxHeartbeats 6400000
set_option maxRecDepth 100000
theorem infoCh : (Try.prog.info? 58).map (fun i => (i.zero, i.size, i.bytes)) = some (some (.agg #[.slice none 0 0, .int .i64 0]), 2, 32) := by kernel_rfl
theorem sizeCh : (Try.prog.info? 58).map (·.size) = some 2 := by kernel_rfl
def okK (p : Int × Int) : Bool := inB p.1 1 1000 && inB p.2 0 1000000
theorem okK_iff {p : Int × Int} : okK p = true ↔ (1 ≤ p.1 ∧ p.1 ≤ 1000) ∧ (0 ≤ p.2 ∧ p.2 ≤ 1000000) := by simp [okK, inB]
def scanK : Nat → List (Int × Int) → Int × Int
  | _, [] => (0, 0)
  | k, p :: L => if okK p = false then (4, (k : Int)) else scanK (k + 1) L
theorem scanK_step {L : List (Int × Int)} {k : Nat} {p : Int × Int} (h : L[k]? = some p) : scanK k (L.drop k) = if okK p = false then (4, (k : Int)) else scanK (k + 1) (L.drop (k + 1)) := by
  obtain ⟨h1, rfl⟩ := List.getElem?_eq_some_iff.1 h
  rw [List.drop_eq_getElem_cons h1, scanK]
theorem scanK_end {L : List (Int × Int)} {k : Nat} (h : L.length ≤ k) : scanK k (L.drop k) = (0, 0) := by rw [List.drop_eq_nil_of_le h]; rfl
theorem scanK_code : ∀ (L : List (Int × Int)) (k : Nat), (scanK k L).1 = 0 → scanK k L = (0, 0)
  | [], _, _ => rfl
  | p :: L, k, h => by
    rw [scanK] at h ⊢
    split at h
    · simp at h
    · rename_i q; rw [if_neg q]; exact scanK_code L _ h
theorem scanK_ok : ∀ (L : List (Int × Int)) (k : Nat), scanK k L = (0, 0) → ∀ p ∈ L, okK p = true
  | [], _, _, p, hp => by simp at hp
  | q :: L, k, h, p, hp => by
    rw [scanK] at h
    split at h
    · injection h with h _; omega
    · rename_i hq
      rcases List.mem_cons.1 hp with rfl | hp
      · simpa using hq
      · exact scanK_ok L _ h p hp
/-- The fault of kinds and years. -/
def faultK (L : List (Int × Int)) (y : Int) : Int × Int :=
  if 8 < L.length then (2, -1) else if (scanK 0 L).1 ≠ 0 then scanK 0 L else if inB y 0 1000 = false then (4, -2) else if 0 < y ∧ L.length = 0 then (12, -1) else (0, 0)
theorem faultK_code {L : List (Int × Int)} {y : Int} (h : (faultK L y).1 = 0) : faultK L y = (0, 0) := by
  unfold faultK at h ⊢
  split at h
  · simp at h
  · rename_i a; rw [if_neg a]
    split at h
    · rename_i b; exact absurd h b
    · rename_i b; rw [if_neg b]
      split at h
      · simp at h
      · rename_i c; rw [if_neg c]
        split at h
        · simp at h
        · rename_i d; rw [if_neg d]
theorem faultK_ok {L : List (Int × Int)} {y : Int} (h : faultK L y = (0, 0)) : L.length ≤ 8 ∧ (∀ p ∈ L, okK p = true) ∧ (0 ≤ y ∧ y ≤ 1000) ∧ (0 < y → 0 < L.length) := by
  unfold faultK at h
  split at h
  · injection h with h _; omega
  · split at h
    · rename_i b; rw [h] at b; exact absurd rfl b
    · rename_i b
      split at h
      · injection h with h _; omega
      · rename_i c
        split at h
        · injection h with h _; omega
        · rename_i a d
          refine ⟨by omega, scanK_ok L 0 (scanK_code L 0 (by simpa using b)), by simpa [inB] using c, fun hy => ?_⟩
          rcases Nat.eq_zero_or_pos L.length with q | q
          · exact absurd ⟨hy, q⟩ d
          · exact q
theorem kbd_ok {L : List (Int × Int)} (h : ∀ p ∈ L, okK p = true) : Ren.KBd L :=
  ⟨fun _ p hp => (okK_iff.1 (h p (List.mem_of_getElem? hp))).1, fun _ p hp => (okK_iff.1 (h p (List.mem_of_getElem? hp))).2⟩
/-- A row of choices: pairs of cells. -/
def pvs (l : List (Value × Value)) : List Value := l.flatMap fun p => [p.1, p.2]
theorem pvs_len : ∀ l : List (Value × Value), (pvs l).length = l.length * 2
  | [] => rfl
  | p :: l => by show ([p.1, p.2] ++ pvs l).length = _; rw [List.length_append, pvs_len l]; simp; omega
theorem pvs_get : ∀ (l : List (Value × Value)) (i : Nat) (p : Value × Value), l[i]? = some p → (pvs l)[i * 2]? = some p.1 ∧ (pvs l)[i * 2 + 1]? = some p.2
  | [], i, p, h => by simp at h
  | q :: l, 0, p, h => by
    have : q = p := by simpa using h
    subst this
    exact ⟨rfl, rfl⟩
  | q :: l, i + 1, p, h => by
    have := pvs_get l i p (by simpa using h)
    rw [show (i + 1) * 2 = i * 2 + 1 + 1 by omega]
    show (q.1 :: q.2 :: pvs l)[i * 2 + 1 + 1]? = _ ∧ (q.1 :: q.2 :: pvs l)[i * 2 + 1 + 1 + 1]? = _
    rw [List.getElem?_cons_succ, List.getElem?_cons_succ, List.getElem?_cons_succ, List.getElem?_cons_succ]
    exact this
theorem pvs_snoc (l : List (Value × Value)) (p : Value × Value) : pvs (l ++ [p]) = pvs l ++ [p.1, p.2] := by
  unfold pvs; rw [List.flatMap_append]; rfl
/-- A value is a slice of numbers in memory of the call's own. -/
def KOwn (W : World) (B : Nat) (u : Value) (K : List Int) : Prop := W.ownsRow B 3 1 u K.length (K.map (Value.int .i64))
theorem KOwn.ext {W W2 : World} {B : Nat} {u : Value} {K : List Int} (h : KOwn W B u K) (x : Ext W W2) : KOwn W2 B u K := town_ext h x
theorem KOwn.grow {W W2 : World} {B n : Nat} {u v : Value} {K : List Int} {xs : List Value} (h : KOwn W B u K) (hv : W.ownsRow B 58 2 v n xs) (hg : W.grownBy W2 v.ownBlock) : KOwn W2 B u K :=
  own_keep h fun g hu => hg.block g (own_lt h hu).2 (fun q => by
    rcases h.2 with ⟨rfl, _⟩ | ⟨g0, cap, cur, rfl, _, hb, _⟩
    · cases hu
    · injection hu with hu
      subst hu
      exact own_ne hv hb (by decide) q.symm)
/-- The table of the best choices. -/
structure TabIs (W : World) (B : Nat) (v : Value) (T : List Ren.Choice) : Prop where
  row : ∃ xs : List (Value × Value), xs.length = T.length ∧ W.ownsRow B 58 2 v T.length (pvs xs) ∧ ∀ (k : Nat) (c : Ren.Choice), T[k]? = some c → ∃ u, xs[k]? = some (u, .int .i64 c.2) ∧ KOwn W B u c.1
theorem TabIs.ext {W W2 : World} {B : Nat} {v : Value} {T : List Ren.Choice} (h : TabIs W B v T) (x : Ext W W2) : TabIs W2 B v T := by
  obtain ⟨xs, h1, h2, h3⟩ := h.row
  exact ⟨xs, h1, town_ext h2 x, fun k c hk => by obtain ⟨u, a, b⟩ := h3 k c hk; exact ⟨u, a, b.ext x⟩⟩
theorem TabIs.get {W : World} {B : Nat} {v : Value} {T : List Ren.Choice} (h : TabIs W B v T) {k : Nat} {c : Ren.Choice} (hk : T[k]? = some c) :
    ∃ g cap u, v = .slice (some ⟨g, 0, none⟩) T.length cap ∧ W.cell? ⟨g, k * 2, none⟩ = some u ∧ W.cell? ⟨g, k * 2 + 1, none⟩ = some (.int .i64 c.2) ∧ KOwn W B u c.1 := by
  obtain ⟨xs, h1, h2, h3⟩ := h.row
  obtain ⟨u, a, b⟩ := h3 k c hk
  have hlt : k < T.length := (List.getElem?_eq_some_iff.1 hk).1
  obtain ⟨g, cap, cur, rfl, hb⟩ := own_blk h2 (by omega)
  have := pvs_get xs k _ a
  exact ⟨g, cap, u, rfl, hb.cell this.1, hb.cell this.2, b⟩
theorem TabIs.cells {W : World} {B g m cap : Nat} {T : List Ren.Choice} (h : TabIs W B (.slice (some ⟨g, 0, none⟩) m cap) T) {k : Nat} {c : Ren.Choice} (hk : T[k]? = some c) :
    ∃ u, W.cell? ⟨g, k * 2, none⟩ = some u ∧ W.cell? ⟨g, k * 2 + 1, none⟩ = some (.int .i64 c.2) ∧ KOwn W B u c.1 := by
  obtain ⟨g', cap', u, e, a, b, d⟩ := h.get hk
  injection e with e _ _
  injection e with e
  injection e with e
  subst e
  exact ⟨u, a, b, d⟩
theorem tab_zero {w : World} {B : Nat} (hB : B ≤ w.heap.size) : TabIs (w.alloc (.cells #[.slice none 0 0, .int .i64 0] 58)) B (.slice (some ⟨w.heap.size, 0, none⟩) 1 1) [([], 0)] := by
  refine ⟨[(.slice none 0 0, .int .i64 0)], rfl, ⟨rfl, .inr ⟨w.heap.size, 1, _, rfl, hB, heap_alloc_new w _, Nat.le_refl _, by unfold maxLen; omega, rfl, rfl⟩⟩, fun k c hk => ?_⟩
  have hlt := (List.getElem?_eq_some_iff.1 hk).1
  have h0 : k = 0 := by simpa using hlt
  subst h0
  have : c = ([], 0) := by simpa using hk.symm
  subst this
  exact ⟨_, rfl, rfl, .inl ⟨rfl, rfl⟩⟩
theorem tab_snoc {W W2 : World} {B : Nat} {v v' u : Value} {T : List Ren.Choice} {c : Ren.Choice} {xs : List (Value × Value)} (h1 : xs.length = T.length) (h2 : W.ownsRow B 58 2 v T.length (pvs xs))
    (h3 : ∀ (k : Nat) (c : Ren.Choice), T[k]? = some c → ∃ u, xs[k]? = some (u, .int .i64 c.2) ∧ KOwn W B u c.1) (hu : KOwn W B u c.1) (ho : W2.ownsRow B 58 2 v' (T.length + 1) (pvs xs ++ [u, .int .i64 c.2])) (hg : W.grownBy W2 v.ownBlock) : TabIs W2 B v' (T ++ [c]) := by
  refine ⟨xs ++ [(u, .int .i64 c.2)], by simp [h1], by rw [List.length_append, pvs_snoc]; exact ho, fun k d hk => ?_⟩
  have hlt := (List.getElem?_eq_some_iff.1 hk).1
  rw [List.length_append, List.length_singleton] at hlt
  by_cases hk2 : k < T.length
  · rw [List.getElem?_append_left hk2] at hk
    obtain ⟨u2, a, b⟩ := h3 k d hk
    exact ⟨u2, by rw [List.getElem?_append_left (by omega)]; exact a, b.grow h2 hg⟩
  · have e : k = T.length := by omega
    subst e
    rw [List.getElem?_append_right (Nat.le_refl _), Nat.sub_self] at hk
    have : c = d := by simpa using hk
    subst this
    exact ⟨u, by rw [List.getElem?_append_right (by omega), h1, Nat.sub_self]; rfl, hu.grow h2 hg⟩
/-- The cells of a choice's own block. -/
structure Ch2 (W : World) (g : Nat) (u : Value) (c : Int) : Prop where
  c0 : W.cell? ⟨g, 0, none⟩ = some u
  c1 : W.cell? ⟨g, 1, none⟩ = some (.int .i64 c)
  f0 : W.frozen? ⟨g, 0, none⟩ = false
  f1 : W.frozen? ⟨g, 1, none⟩ = false
theorem ch2_mk {W : World} {g : Nat} {u : Value} {c : Int} (h : W.heap[g]? = some (.cells #[u, .int .i64 c] 58 (0, 0))) : Ch2 W g u c := ⟨blk_cell h 0, blk_cell h 1, blk_frozen h 0, blk_frozen h 1⟩
theorem chblk_set {W : World} {g : Nat} {u v : Value} {c d : Int} (h : W.heap[g]? = some (.cells #[u, .int .i64 c] 58 (0, 0))) : ((W.setCell ⟨g, 0, none⟩ v).setCell ⟨g, 1, none⟩ (.int .i64 d)).heap[g]? = some (.cells #[v, .int .i64 d] 58 (0, 0)) :=
  heap_set_self (heap_set_self h 0 _) 1 _
theorem run_build_ch0 (w : World) : (Instr.build 58 #[]).run Try.prog w = .ok (.agg #[.slice none 0 0, .int .i64 0]) w := by kernel_rfl
theorem run_buildSlice_ch0 (w : World) : (Instr.buildSlice 59 1 #[(0, .agg #[.slice none 0 0, .int .i64 0])]).run Try.prog w = .ok (.slice (some ⟨w.heap.size, 0, none⟩) 1 1) (w.alloc (.cells #[.slice none 0 0, .int .i64 0] 58)) := by kernel_rfl
theorem run_build_ch (A : Option Addr) (n c : Nat) (x : Int) (w : World) : (Instr.build 58 #[(0, .slice A n c), (1, .int .i64 x)]).run Try.prog w = .ok (.agg #[.slice A n c, .int .i64 x]) w := by kernel_rfl
theorem run_buildSlice_ch (A : Option Addr) (n c : Nat) (x : Int) (w : World) : (Instr.buildSlice 59 1 #[(0, .agg #[.slice A n c, .int .i64 x])]).run Try.prog w = .ok (.slice (some ⟨w.heap.size, 0, none⟩) 1 1) (w.alloc (.cells #[.slice A n c, .int .i64 x] 58)) := by kernel_rfl
theorem run_buildSlice_i (x : Int) (w : World) : (Instr.buildSlice 29 1 #[(0, .int .i64 x)]).run Try.prog w = .ok (.slice (some ⟨w.heap.size, 0, none⟩) 1 1) (w.alloc (.cells #[.int .i64 x] 3)) := by kernel_rfl
theorem heap_new2 (w : World) (o o2 : Obj) : ((w.alloc o).alloc o2).heap[w.heap.size + 1]? = some o2 := by
  have := heap_alloc_new (w.alloc o) o2
  rw [World.size_alloc] at this
  exact this
/-- What is left of an insertion: the new row, and what is kept. -/
def InsKeep (w5 Wi : World) (B : Nat) (KN : List Int) (e : Ending) (w' : World) : Prop :=
  ∃ A c, e = .returned (.slice A KN.length c) ∧ KOwn w' B (.slice A KN.length c) KN ∧ Ext w5 w' ∧ ∀ (g : Nat) (cs : Array Value), Wi.heap[g]? = some (.cells cs 58 (0, 0)) → w'.heap[g]? = some (.cells cs 58 (0, 0))
theorem insKeep {w5 Wi : World} {B : Nat} {vc : Value} {K3 KN : List Int} (x : Ext w5 Wi) (hB : B ≤ w5.heap.size) (ho : Wi.ownsRow w5.heap.size 3 1 vc K3.length (K3.map (Value.int .i64))) {e : Ending} {w' : World}
    (h : InsRet Wi w5.heap.size vc (KN.map (Value.int .i64)) e w') : InsKeep w5 Wi B KN e w' := by
  obtain ⟨v', rfl, h1, h2, h3⟩ := h
  rw [List.length_map] at h1
  obtain ⟨A, c, rfl, _, _, _, _⟩ := own_sl5 h1
  refine ⟨A, c, rfl, town_base h1 hB, ext_grown x h2 (fun g hg => (own_lt ho hg).1), fun g cs hg => ?_⟩
  rw [h2.block g (Array.getElem?_eq_some_iff.1 hg).1 (fun q => own_ne ho hg (by decide) q.symm)]
  exact hg
theorem keep3 {w5 W : World} {a b c : Addr} {u v x : Value} (k0 : w5.cell? a = some u) (k1 : w5.cell? b = some v) (k2 : w5.cell? c = some x) (h : Ext w5 W) : W.cell? a = some u ∧ W.cell? b = some v ∧ W.cell? c = some x := ⟨h.cell k0, h.cell k1, h.cell k2⟩
theorem cand_fin {wr W : World} {B g : Nat} {u v : Value} {c d : Int} {K : List Int} (h : W.heap[g]? = some (.cells #[u, .int .i64 c] 58 (0, 0))) (hv : KOwn W B v K) (hx : Ext wr W) (hg : wr.heap.size ≤ g) :
    ((W.setCell ⟨g, 0, none⟩ v).setCell ⟨g, 1, none⟩ (.int .i64 d)).heap[g]? = some (.cells #[v, .int .i64 d] 58 (0, 0)) ∧ KOwn ((W.setCell ⟨g, 0, none⟩ v).setCell ⟨g, 1, none⟩ (.int .i64 d)) B v K ∧ Ext wr ((W.setCell ⟨g, 0, none⟩ v).setCell ⟨g, 1, none⟩ (.int .i64 d)) := by
  refine ⟨chblk_set h, own_keep hv fun k hk => ?_, ext_set2 hx hg _ _⟩
  have hne : k ≠ g := fun q => own_ne hv h (by decide) (by rw [hk, q])
  exact (Below.heap_setCell _ _ _ _ hne).trans (Below.heap_setCell _ _ _ _ hne)
/-- What Cheapest returns. -/
def CheapRet (w : World) (L : List (Int × Int)) (y : Int) (e : Ending) (w' : World) : Prop :=
  Ext w w' ∧ ((faultK L y ≠ (0, 0) ∧ e = .returned (.tuple #[.slice none 0 0, .int .i64 0, fAgg (faultK L y)])) ∨
    (faultK L y = (0, 0) ∧ ∃ A c, e = .returned (.tuple #[.slice A (Ren.bestAt L y.toNat).1.length c, .int .i64 (Ren.bestAt L y.toNat).2, fAgg (0, 0)]) ∧ Sl w' .i64 A (Ren.bestAt L y.toNat).1 ∧ (Ren.bestAt L y.toNat).1.length ≤ c ∧ c ≤ maxLen))
end Go.Proofs.Ytnijfndpefkoeaa
