import Derived.Test.YtbhcaniopdgjkaaVis1
namespace Go.Proofs.Ytbhcaniopdgjkaa
open Go Go.Proofs Go.RowKit
open Plain (SiteD)
set_option maxHeartbeats 3200000
set_option maxRecDepth 100000
/-- The row is written over the worst one. -/
theorem Vis.copied {w0 Ws w1 w2 : World} {gr gw bf cnt : Nat} {p : List Int} {S : List Int × Int} (h : Vis w0 Ws w1 gr gw bf cnt p S) (hp : p.length = cnt) (n1 : gr ≠ gw) (n2 : gw ≠ bf)
    (r1 : w2.heap[gw]? = some (.cells (p.map (Value.int .i64)).toArray 3 (0, 0))) (r2 : ∀ k, k ≠ gw → w2.heap[k]? = w1.heap[k]?) (r3 : w2.heap.size = w1.heap.size) (r4 : w2.os = w1.os) (r5 : w2.tape = w1.tape) (r6 : w2.output = w1.output) : Vis w0 Ws w2 gr gw bf cnt p (p, S.2) := by
  obtain ⟨cur, c1, c2, c3⟩ := h.row
  refine ⟨r4.trans h.os, r5.trans h.tape, r6.trans h.output, by rw [r3]; exact h.size, fun b hb a1 a2 a3 => by rw [r2 b a2]; exact h.keep b hb a1 a2 a3, ⟨cur, by rw [r2 gr n1]; exact c1, c2, c3⟩, r1, hp, by rw [r2 bf (Ne.symm n2)]; exact h.few⟩
theorem Vis.setFew {w0 Ws w1 : World} {gr gw bf cnt : Nat} {p : List Int} {S : List Int × Int} (h : Vis w0 Ws w1 gr gw bf cnt p S) (n1 : gr ≠ bf) (n2 : gw ≠ bf) (x : Int) : Vis w0 Ws (w1.setCell ⟨bf, 0, none⟩ (.int .i64 x)) gr gw bf cnt p (S.1, x) := by
  obtain ⟨cur, c1, c2, c3⟩ := h.row
  refine ⟨h.os, h.tape, h.output, by rw [show (w1.setCell ⟨bf, 0, none⟩ (.int .i64 x)).heap.size = w1.heap.size by simp [World.setCell]]; exact h.size, fun b hb a1 a2 a3 => by rw [Below.heap_setCell _ _ _ _ a3]; exact h.keep b hb a1 a2 a3, ⟨cur, by rw [Below.heap_setCell _ _ _ _ n1]; exact c1, c2, c3⟩, by rw [Below.heap_setCell _ _ _ _ n2]; exact h.wor, h.worl, ?_⟩
  have := h.few
  simp only [World.setCell, Array.getElem?_modify, this, if_true]; rfl
theorem row_full {cur : Array Value} {p : List Int} {cnt : Nat} (hp : p.length = cnt) (h1 : cur.size = cnt) (h2 : cur.toList.take p.length = p.map (Value.int .i64)) : cur = (p.map (Value.int .i64)).toArray := by
  rw [List.take_of_length_le (by simp; omega)] at h2
  rw [← h2]
theorem cb_c (w0 Ws wr : World) (gr gw bf cnt bl bc bw : Nat) (A C : Option Addr) (L : List SiteD) (ch : List Int) (c1 c2 : Nat) (p : List Int) (S : List Int × Int)
    (hv : Vis w0 Ws wr gr gw bf cnt p S) (hp : p.length = cnt) (hcnt : cnt ≤ 12) (hx0 : Ext w0 Ws) (g1 : w0.heap.size ≤ gr) (g2 : w0.heap.size ≤ gw) (g3 : w0.heap.size ≤ bf) (n1 : gr ≠ gw) (n2 : gr ≠ bf) (n3 : gw ≠ bf)
    (k1 : Ws.cell? ⟨bl, 0, none⟩ = some (.slice A L.length c1)) (k2 : Ws.cell? ⟨bc, 0, none⟩ = some (.slice C ch.length c2)) (k3 : Ws.cell? ⟨bw, 0, none⟩ = some (.slice (some ⟨gw, 0, none⟩) cnt cnt))
    (d1 : bl ≠ gr ∧ bl ≠ gw ∧ bl ≠ bf) (d2 : bc ≠ gr ∧ bc ≠ gw ∧ bc ≠ bf) (d3 : bw ≠ gr ∧ bw ≠ gw ∧ bw ≠ bf)
    (h1 : Sites w0 A L) (h2 : Sl w0 .i64 C ch) (hL : L.length ≤ 10) (hc : ch.length ≤ 10) (hvl : ∀ i ∈ ch, 0 ≤ i ∧ i < L.length) :
    Calls Try.prog 60 #[.slice (some ⟨gr, 0, none⟩) cnt cnt, .pointer (some ⟨bl, 0, none⟩), .pointer (some ⟨bc, 0, none⟩), .pointer (some ⟨bf, 0, none⟩), .pointer (some ⟨bw, 0, none⟩)] wr
      fun e w' => e = .returned (.tuple #[]) ∧ Vis w0 Ws w' gr gw bf cnt p (stepW L ch p S) := by
  have a1 := hv.cell k1 d1.1 d1.2.1 d1.2.2
  have a2 := hv.cell k2 d2.1 d2.2.1 d2.2.2
  have HX := Lib.hid (hv.x hx0 g1 g2 g3)
  have HL := Lib.hid (left_c A C (some ⟨gr, 0, none⟩) L ch p c1 c2 cnt wr (by omega) (by unfold maxLen; omega) (by omega) (h1.ext HX.out) (h2.ext HX.out) hv.sl hvl)
  have HV := Lib.hid hv
  have HST : Hid (stepW L ch p S = if ((Plain.leftF L ch p).length : Int) < S.2 then (p, ((Plain.leftF L ch p).length : Int)) else S) := rfl
  rw [hp] at HL
  obtain ⟨N, hN⟩ : ∃ N, N = Plain.leftF L ch p := ⟨_, rfl⟩
  rw [← hN] at HL HST
  have K3 := Lib.hid k3
  clear hN hv k1 k2 k3 h1 h2 hvl hx0
  by_cases hlt : (N.length : Int) < S.2
  · rw [if_pos hlt] at HST
    rw [HST.out]
    go_enter Try.func60, Try.ntmps60
    go_wp2_with (first | (go_at_call 48; refine HL.out.mono ?_; rintro e w1 ⟨v1, rfl, ho1, hx1⟩; have HV1 := Lib.hid (HV.out.ext hx1); obtain ⟨A1, cc1, rfl, _, _, _, _⟩ := own_sl ho1; have b1 := HV1.out.cell K3.out d3.1 d3.2.1 d3.2.2; have b2 := blk_cell HV1.out.few 0; have b3 := blk_frozen HV1.out.few 0; obtain ⟨cur, q1, q2, q3⟩ := HV1.out.row; have q4 := row_full hp q2 q3; subst q4; obtain ⟨w2, hrun, r1, r2, r3, r4, r5, r6⟩ := copy_run w1 3 gw gr cnt _ _ HV1.out.wor (by simpa using HV1.out.worl) q1 q2 (by simpa using ints_one); have HV2 := Lib.hid (HV1.out.copied hp n1 n3 r1 r2 r3 r4 r5 r6); have e2 := blk_cell HV2.out.few 0; have e3 := blk_frozen HV2.out.few 0; clear r1 r2 r3 r4 r5 r6 q1 q2 q3 ho1 hx1))
    exact bodyPost_end (v := .tuple #[]) (by simp [results, Try.results60]) rfl ⟨rfl, HV2.out.setFew n2 n3 _⟩
  · rw [if_neg hlt] at HST
    rw [HST.out]
    go_enter Try.func60, Try.ntmps60
    go_wp2_with (first | (go_at_call 48; refine HL.out.mono ?_; rintro e w1 ⟨v1, rfl, ho1, hx1⟩; have HV1 := Lib.hid (HV.out.ext hx1); obtain ⟨A1, cc1, rfl, _, _, _, _⟩ := own_sl ho1; have b1 := HV1.out.cell K3.out d3.1 d3.2.1 d3.2.2; have b2 := blk_cell HV1.out.few 0; have b3 := blk_frozen HV1.out.few 0; clear ho1 hx1))
    exact bodyPost_end (v := .tuple #[]) (by simp [results, Try.results60]) rfl ⟨rfl, HV1.out⟩
end Go.Proofs.Ytbhcaniopdgjkaa
