import Derived.Test.YtbhcaniopdgjkaaMg20
namespace Go.Proofs.Ytbhcaniopdgjkaa
open Go Go.Proofs Go.RowKit
open Plain (SiteD)
set_option maxHeartbeats 1000000
set_option maxRecDepth 100000
theorem info4 : (Try.prog.info? 4).map (fun i => (i.zero, i.size, i.bytes)) = some (some (.bool false), 1, 1) := by kernel_rfl
theorem info23 : (Try.prog.info? 23).map (fun i => (i.zero, i.size, i.bytes)) = some (some (.slice none 0 0), 1, 24) := by kernel_rfl
theorem make_bools (w : World) (n : Nat) (h : n ≤ 1000000) : (Instr.makeSlice 73 (.int .i64 (n : Int)) (.int .i64 (n : Int))).run Try.prog w = .ok (.slice (some ⟨w.heap.size, 0, none⟩) n n) (w.alloc (.cells (seenRow n []) 4)) := by
  obtain ⟨i0, hi, hz0, hz1, hz2⟩ := info_parts info4
  have := run_make (P := Try.prog) w 73 4 i0 (.bool false) Try.underlying73 hi hz0 .i64 .i64 n n (by omega) (by omega) (by rw [hz2]; omega) (by omega)
  rw [hz1] at this
  simp only [Int.toNat_natCast] at this
  rw [this]
  congr 3
  rw [Nat.mul_one]
  have h2 := toList_madeCells_one (.bool false) n
  show madeCells #[.bool false] n = _
  unfold seenRow
  rw [show ((List.range n).map fun k => Value.bool (([] : List Nat).contains k)) = List.replicate n (.bool false) from by simp [List.map_const'], ← h2]
/-- The groups that have been found. -/
def RowsOk (Wb wr : World) (v6 : Value) (vs : List Value) (P : List (List Int)) : Prop :=
  ∀ (j : Nat) (g : List Int), P[j]? = some g → ∃ (blk c : Nat) (cur : Array Value), vs[j]? = some (.slice (some ⟨blk, 0, none⟩) g.length c) ∧ Wb.heap.size ≤ blk ∧ wr.heap[blk]? = some (.cells cur 3 (0, 0)) ∧ g.length ≤ c ∧ c ≤ maxLen ∧ cur.size = c ∧ cur.toList.take g.length = g.map (Value.int .i64) ∧ v6.ownBlock ≠ some blk
structure OutP (Wb wr : World) (G q : Nat) (acc : List Nat) (P : List (List Int)) (v6 : Value) (vs : List Value) : Prop where
  os : wr.os = Wb.os
  tape : wr.tape = Wb.tape
  output : wr.output = Wb.output
  size : Wb.heap.size ≤ wr.heap.size
  keep : ∀ b, b < Wb.heap.size → b ≠ G → wr.heap[b]? = Wb.heap[b]?
  seen : wr.heap[G]? = some (.cells (seenRow q acc) 4 (0, 0))
  own : wr.ownsRow Wb.heap.size 23 1 v6 P.length vs
  rows : RowsOk Wb wr v6 vs P
theorem OutP.start (Wb : World) (G q : Nat) (h : Wb.heap[G]? = some (.cells (seenRow q []) 4 (0, 0))) : OutP Wb Wb G q [] [] (.slice none 0 0) [] :=
  ⟨rfl, rfl, rfl, Nat.le_refl _, fun _ _ _ => rfl, h, World.ownsRow_nil _ _ _ _, fun j g hg => by simp at hg⟩
section
variable {w0 Wb wr : World} {G q : Nat} {acc : List Nat} {P : List (List Int)} {v6 : Value} {vs : List Value}
theorem OutP.cell (h : OutP Wb wr G q acc P v6 vs) {b : Nat} {o : Obj} (hc : Wb.heap[b]? = some o) (h1 : b ≠ G) : wr.heap[b]? = some o := by
  rw [h.keep b (blk_lt hc) h1]; exact hc
theorem OutP.x (h : OutP Wb wr G q acc P v6 vs) (e : Ext w0 Wb) (h1 : w0.heap.size ≤ G) : Ext w0 wr := by
  refine ⟨h.os.trans e.os, h.tape.trans e.tape, h.output.trans e.output, Nat.le_trans e.size h.size, fun b hb => ?_⟩
  rw [h.keep b (Nat.lt_of_lt_of_le hb e.size) (by omega)]
  exact e.block b hb
theorem OutP.vlt (h : OutP Wb wr G q acc P v6 vs) {b : Nat} (hb : v6.ownBlock = some b) : Wb.heap.size ≤ b ∧ b < wr.heap.size := own_lt h.own hb
/-- Behind a world that keeps all that lay there, but for the seen ones. -/
theorem OutP.moved (h : OutP Wb wr G q acc P v6 vs) {w1 : World} {acc2 : List Nat} (h1 : w1.os = wr.os) (h2 : w1.tape = wr.tape) (h3 : w1.output = wr.output) (h4 : wr.heap.size ≤ w1.heap.size) (hk : ∀ b, b < wr.heap.size → b ≠ G → w1.heap[b]? = wr.heap[b]?) (hs : w1.heap[G]? = some (.cells (seenRow q acc2) 4 (0, 0))) (hG : G < Wb.heap.size) : OutP Wb w1 G q acc2 P v6 vs := by
  refine ⟨h1.trans h.os, h2.trans h.tape, h3.trans h.output, Nat.le_trans h.size h4, fun b hb a1 => ?_, hs, own_keep h.own (fun g hg => ?_), fun j g hg => ?_⟩
  · rw [hk b (Nat.lt_of_lt_of_le hb h.size) a1]; exact h.keep b hb a1
  · have := own_lt h.own hg
    exact hk g this.2 (by omega)
  · obtain ⟨blk, c, cur, r1, r2, r3, r4⟩ := h.rows j g hg
    exact ⟨blk, c, cur, r1, r2, by rw [hk blk (blk_lt r3) (by omega)]; exact r3, r4⟩
theorem OutP.ext (h : OutP Wb wr G q acc P v6 vs) (hG : G < Wb.heap.size) {w1 : World} (e : Ext wr w1) : OutP Wb w1 G q acc P v6 vs :=
  h.moved e.os e.tape e.output e.size (fun b hb _ => e.block b hb) (ext_blk e h.seen) hG
/-- One search and the sorting of its group. -/
theorem OutP.search (h : OutP Wb wr G q acc P v6 vs) {Ws wv w1 : World} {bg : Nat} {acc2 : List Nat} {grp : List Int} (e : Ext wr Ws) (hv : VisP Ws wv G bg q acc2 grp) (hbg : wr.heap.size ≤ bg) (hG : G < Wb.heap.size) (hb : Below Ws.heap.size wv w1) : OutP Wb w1 G q acc2 P v6 vs := by
  have hGs : G < Ws.heap.size := Nat.lt_of_lt_of_le hG (Nat.le_trans h.size e.size)
  refine h.moved (hb.os.trans (hv.os.trans e.os)) (hb.tape.trans (hv.tape.trans e.tape)) (hb.output.trans (hv.output.trans e.output)) (Nat.le_trans e.size (Nat.le_trans hv.size hb.size)) (fun b hlt hn => ?_) (by rw [hb.block G hGs]; exact hv.seen) hG
  have hbs : b < Ws.heap.size := Nat.lt_of_lt_of_le hlt e.size
  rw [hb.block b hbs, hv.keep b hbs hn (by omega)]
  exact e.block b hlt
/-- A group comes to the others. -/
theorem OutP.add (h : OutP Wb wr G q acc P v6 vs) (hG : G < Wb.heap.size) {w3 : World} {v3 : Value} {blk c : Nat} {cur : Array Value} {g : List Int} {o : Obj}
    (hg1 : wr.heap[blk]? = some (.cells cur 3 (0, 0))) (hg2 : Wb.heap.size ≤ blk) (hg3 : g.length ≤ c) (hg4 : c ≤ maxLen) (hg5 : cur.size = c) (hg6 : cur.toList.take g.length = g.map (Value.int .i64)) (hg7 : v6.ownBlock ≠ some blk)
    (ho : w3.ownsRow Wb.heap.size 23 1 v3 (P.length + 1) (vs ++ [.slice (some ⟨blk, 0, none⟩) g.length c])) (hgr : (wr.alloc o).grownBy w3 v6.ownBlock) (hat : v3.ownBlock = v6.ownBlock ∨ v3.ownBlock = some (wr.alloc o).heap.size) : OutP Wb w3 G q acc (P ++ [g]) v3 (vs ++ [.slice (some ⟨blk, 0, none⟩) g.length c]) := by
  have hsz : (wr.alloc o).heap.size = wr.heap.size + 1 := alloc_size wr o
  have hk : ∀ b, b < wr.heap.size → some b ≠ v6.ownBlock → w3.heap[b]? = wr.heap[b]? := fun b hb hn => by
    rw [hgr.block b (by omega) hn, alloc_heap, if_neg (by omega)]
  have hv6 : ∀ b, b < Wb.heap.size → some b ≠ v6.ownBlock := fun b hb he => by
    have := h.vlt he.symm
    omega
  have hv3 : ∀ b, b < wr.heap.size → v6.ownBlock ≠ some b → v3.ownBlock ≠ some b := fun b hb hn he => by
    rcases hat with h1 | h1
    · exact hn (h1 ▸ he)
    · rw [h1] at he; injection he with he; omega
  have hws := h.size
  have hvl : vs.length = P.length := by have := h.own.1; omega
  refine ⟨hgr.os.trans h.os, hgr.tape.trans h.tape, hgr.output.trans h.output, by have := hgr.size; omega, fun b hb a1 => ?_, ?_, by rw [List.length_append]; exact ho, fun j g' hg => ?_⟩
  · rw [hk b (by omega) (hv6 b hb)]; exact h.keep b hb a1
  · rw [hk G (by omega) (hv6 G hG)]; exact h.seen
  · by_cases hj : j < P.length
    · rw [List.getElem?_append_left hj] at hg
      obtain ⟨blk', c', cur', r1, r2, r3, r4, r5, r6, r7, r8⟩ := h.rows j g' hg
      exact ⟨blk', c', cur', by rw [List.getElem?_append_left (by omega)]; exact r1, r2, by rw [hk blk' (blk_lt r3) (Ne.symm r8)]; exact r3, r4, r5, r6, r7, hv3 _ (blk_lt r3) r8⟩
    · have hj2 : j = P.length := by
        have := (List.getElem?_eq_some_iff.1 hg).1
        simp at this
        omega
      subst hj2
      rw [List.getElem?_append_right (Nat.le_refl _), Nat.sub_self] at hg
      simp only [List.getElem?_cons_zero, Option.some.injEq] at hg
      subst hg
      exact ⟨blk, c, cur, by rw [List.getElem?_append_right (by omega)]; simp [hvl], hg2, by rw [hk blk (blk_lt hg1) (Ne.symm hg7)]; exact hg1, hg3, hg4, hg5, hg6, hv3 _ (blk_lt hg1) hg7⟩
end
end Go.Proofs.Ytbhcaniopdgjkaa
