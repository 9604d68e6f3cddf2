import Derived.Test.YtbhcaniopdgjkaaMg16
import Derived.Deep.RegionHeld3
namespace Go.Proofs.Ytbhcaniopdgjkaa
open Go Go.Proofs Go.RowKit
open Plain (SiteD)
set_option maxHeartbeats 3200000
set_option maxRecDepth 100000
/-- The row is written over the worst one. -/
theorem Vis.copied {w0 Ws w1 w2 : World} {gr gw bf cnt : Nat} {p : List Int} {S : List Int × Int} (h : Vis w0 Ws w1 gr gw bf cnt p S) (hp : p.length = cnt) (n1 : gr ≠ gw) (n2 : gw ≠ bf)
    (r1 : w2.heap[gw]? = some (.cells (p.map (Value.int .i64)).toArray 3 (0, 0))) (r2 : ∀ k, k ≠ gw → w2.heap[k]? = w1.heap[k]?) (r3 : w2.heap.size = w1.heap.size) (r4 : w2.os = w1.os) (r5 : w2.tape = w1.tape) (r6 : w2.output = w1.output) : Vis w0 Ws w2 gr gw bf cnt p (p, S.2) := by
  obtain ⟨cur, c1, c2, c3⟩ := h.row
  refine ⟨r4.trans h.os, r5.trans h.tape, r6.trans h.output, by rw [r3]; exact h.size, fun b hb a1 a2 a3 => by rw [r2 b a2]; exact h.keep b hb a1 a2 a3, ⟨cur, by rw [r2 gr n1]; exact c1, c2, c3⟩, r1, hp, by rw [r2 bf (Ne.symm n2)]; exact h.few⟩
theorem Vis.setFew {w0 Ws w1 : World} {gr gw bf cnt : Nat} {p : List Int} {S : List Int × Int} (h : Vis w0 Ws w1 gr gw bf cnt p S) (n1 : gr ≠ bf) (n2 : gw ≠ bf) (x : Int) : Vis w0 Ws (w1.setCell ⟨bf, 0, none⟩ (.int .i64 x)) gr gw bf cnt p (S.1, x) := by
  obtain ⟨cur, c1, c2, c3⟩ := h.row
  refine ⟨h.os, h.tape, h.output, by rw [show (w1.setCell ⟨bf, 0, none⟩ (.int .i64 x)).heap.size = w1.heap.size by simp [World.setCell]]; exact h.size, fun b hb a1 a2 a3 => by rw [Below.heap_setCell _ _ _ _ a3]; exact h.keep b hb a1 a2 a3, ⟨cur, by rw [Below.heap_setCell _ _ _ _ n1]; exact c1, c2, c3⟩, by rw [Below.heap_setCell _ _ _ _ n2]; exact h.wor, h.worl, ?_⟩
  have := h.few
  simp only [World.setCell, Array.getElem?_modify, this, if_true]; rfl
theorem row_full {cur : Array Value} {p : List Int} {cnt : Nat} (hp : p.length = cnt) (h1 : cur.size = cnt) (h2 : cur.toList.take p.length = p.map (Value.int .i64)) : cur = (p.map (Value.int .i64)).toArray := by
  rw [List.take_of_length_le (by simp; omega)] at h2
  rw [← h2]
theorem cb_c (w0 Ws wr : World) (gr gw bf cnt bl bc bw : Nat) (A C : Option Addr) (L : List SiteD) (ch : List Int) (c1 c2 : Nat) (p : List Int) (S : List Int × Int)
    (hv : Vis w0 Ws wr gr gw bf cnt p S) (hp : p.length = cnt) (hcnt : cnt ≤ 12) (hx0 : Ext w0 Ws) (g1 : w0.heap.size ≤ gr) (g2 : w0.heap.size ≤ gw) (g3 : w0.heap.size ≤ bf) (n1 : gr ≠ gw) (n2 : gr ≠ bf) (n3 : gw ≠ bf)
    (k1 : Ws.cell? ⟨bl, 0, none⟩ = some (.slice A L.length c1)) (k2 : Ws.cell? ⟨bc, 0, none⟩ = some (.slice C ch.length c2)) (k3 : Ws.cell? ⟨bw, 0, none⟩ = some (.slice (some ⟨gw, 0, none⟩) cnt cnt))
    (d1 : bl ≠ gr ∧ bl ≠ gw ∧ bl ≠ bf) (d2 : bc ≠ gr ∧ bc ≠ gw ∧ bc ≠ bf) (d3 : bw ≠ gr ∧ bw ≠ gw ∧ bw ≠ bf)
    (h1 : Sites w0 A L) (h2 : Sl w0 .i64 C ch) (hL : L.length ≤ 10) (hc : ch.length ≤ 10) (hvl : ∀ i ∈ ch, 0 ≤ i ∧ i < L.length) :
    Calls Try.prog 60 #[.slice (some ⟨gr, 0, none⟩) cnt cnt, .pointer (some ⟨bl, 0, none⟩), .pointer (some ⟨bc, 0, none⟩), .pointer (some ⟨bf, 0, none⟩), .pointer (some ⟨bw, 0, none⟩)] wr
      fun e w' => e = .returned (.tuple #[]) ∧ Vis w0 Ws w' gr gw bf cnt p (stepW L ch p S) := by
  have a1 := hv.cell k1 d1.1 d1.2.1 d1.2.2
  have a2 := hv.cell k2 d2.1 d2.2.1 d2.2.2
  have HX := Lib.hid (hv.x hx0 g1 g2 g3)
  have HL := Lib.hid (left_c A C (some ⟨gr, 0, none⟩) L ch p c1 c2 cnt wr (by omega) (by unfold maxLen; omega) (by omega) (h1.ext HX.out) (h2.ext HX.out) hv.sl hvl)
  have HV := Lib.hid hv
  have HST : Hid (stepW L ch p S = if ((Plain.leftF L ch p).length : Int) < S.2 then (p, ((Plain.leftF L ch p).length : Int)) else S) := rfl
  rw [hp] at HL
  obtain ⟨N, hN⟩ : ∃ N, N = Plain.leftF L ch p := ⟨_, rfl⟩
  rw [← hN] at HL HST
  have K3 := Lib.hid k3
  clear hN hv k1 k2 k3 h1 h2 hvl hx0
  by_cases hlt : (N.length : Int) < S.2
  · rw [if_pos hlt] at HST
    rw [HST.out]
    go_enter Try.func60, Try.ntmps60
    go_wp2_with (first | (go_at_call 48; refine HL.out.mono ?_; rintro e w1 ⟨v1, rfl, ho1, hx1⟩; have HV1 := Lib.hid (HV.out.ext hx1); obtain ⟨A1, cc1, rfl, _, _, _, _⟩ := own_sl ho1; have b1 := HV1.out.cell K3.out d3.1 d3.2.1 d3.2.2; have b2 := blk_cell HV1.out.few 0; have b3 := blk_frozen HV1.out.few 0; obtain ⟨cur, q1, q2, q3⟩ := HV1.out.row; have q4 := row_full hp q2 q3; subst q4; obtain ⟨w2, hrun, r1, r2, r3, r4, r5, r6⟩ := copy_run w1 3 gw gr cnt _ _ HV1.out.wor (by simpa using HV1.out.worl) q1 q2 (by simpa using ints_one); have HV2 := Lib.hid (HV1.out.copied hp n1 n3 r1 r2 r3 r4 r5 r6); have e2 := blk_cell HV2.out.few 0; have e3 := blk_frozen HV2.out.few 0; clear r1 r2 r3 r4 r5 r6 q1 q2 q3 ho1 hx1))
    exact bodyPost_end (v := .tuple #[]) (by simp [results, Try.results60]) rfl ⟨rfl, HV2.out.setFew n2 n3 _⟩
  · rw [if_neg hlt] at HST
    rw [HST.out]
    go_enter Try.func60, Try.ntmps60
    go_wp2_with (first | (go_at_call 48; refine HL.out.mono ?_; rintro e w1 ⟨v1, rfl, ho1, hx1⟩; have HV1 := Lib.hid (HV.out.ext hx1); obtain ⟨A1, cc1, rfl, _, _, _, _⟩ := own_sl ho1; have b1 := HV1.out.cell K3.out d3.1 d3.2.1 d3.2.2; have b2 := blk_cell HV1.out.few 0; have b3 := blk_frozen HV1.out.few 0; clear ho1 hx1))
    exact bodyPost_end (v := .tuple #[]) (by simp [results, Try.results60]) rfl ⟨rfl, HV1.out⟩
end Go.Proofs.Ytbhcaniopdgjkaa
namespace Go.Proofs.Ytbhcaniopdgjkaa
open Go Go.Proofs Go.RowKit
open Plain (SiteD)
set_option maxHeartbeats 1000000
set_option maxRecDepth 100000
/-- What stays as it is while the sets are visited. -/
structure Stat (w0 Ws : World) (gr gw bf cnt bl bc bw Bn Bf Bs Bv : Nat) (A C : Option Addr) (L : List SiteD) (ch : List Int) (c1 c2 : Nat) : Prop where
  hcnt : cnt ≤ 12
  hx0 : Ext w0 Ws
  g1 : w0.heap.size ≤ gr
  g2 : w0.heap.size ≤ gw
  g3 : w0.heap.size ≤ bf
  n1 : gr ≠ gw
  n2 : gr ≠ bf
  n3 : gw ≠ bf
  k1 : Ws.cell? ⟨bl, 0, none⟩ = some (.slice A L.length c1)
  k2 : Ws.cell? ⟨bc, 0, none⟩ = some (.slice C ch.length c2)
  k3 : Ws.cell? ⟨bw, 0, none⟩ = some (.slice (some ⟨gw, 0, none⟩) cnt cnt)
  k4 : Ws.cell? ⟨Bn, 0, none⟩ = some (.int .i64 cnt)
  k5 : Ws.cell? ⟨Bf, 0, none⟩ = some (.func (.func 60) #[] #[.pointer (some ⟨bl, 0, none⟩), .pointer (some ⟨bc, 0, none⟩), .pointer (some ⟨bf, 0, none⟩), .pointer (some ⟨bw, 0, none⟩)])
  k6 : Ws.cell? ⟨Bs, 0, none⟩ = some (.slice (some ⟨gr, 0, none⟩) cnt cnt)
  k7 : Ws.cell? ⟨Bv, 0, none⟩ = some (.func (.func 89) #[] #[.pointer (some ⟨Bn, 0, none⟩), .pointer (some ⟨Bf, 0, none⟩), .pointer (some ⟨Bs, 0, none⟩), .pointer (some ⟨Bv, 0, none⟩)])
  d1 : bl ≠ gr ∧ bl ≠ gw ∧ bl ≠ bf
  d2 : bc ≠ gr ∧ bc ≠ gw ∧ bc ≠ bf
  d3 : bw ≠ gr ∧ bw ≠ gw ∧ bw ≠ bf
  d4 : Bn ≠ gr ∧ Bn ≠ gw ∧ Bn ≠ bf
  d5 : Bf ≠ gr ∧ Bf ≠ gw ∧ Bf ≠ bf
  d6 : Bs ≠ gr ∧ Bs ≠ gw ∧ Bs ≠ bf
  d7 : Bv ≠ gr ∧ Bv ≠ gw ∧ Bv ≠ bf
  h1 : Sites w0 A L
  h2 : Sl w0 .i64 C ch
  hL : L.length ≤ 10
  hc : ch.length ≤ 10
  hvl : ∀ i ∈ ch, 0 ≤ i ∧ i < L.length
/-- s[m:] of a slice. -/
theorem run_slice_from {P : Program} (w : World) (t e : TypeId) (i : TypeInfo) (ht : P.underlying t = some (.slice e)) (hi : P.info? e = some i) (hsz : i.size = 1) (A : Option Addr) (n c : Nat) (k : IntKind) (M : Int) (m : Nat) (hM : M = m) (hn : m ≤ n) :
    (Instr.slice t (.slice A n c) (some (.int k M)) none none).run P w = .ok (.slice (if c = m then A else A.map (·.add m)) (n - m) (c - m)) w := by
  subst hM
  have h1 : (0 : Int) ≤ m ∧ (m : Int) ≤ n := by omega
  simp [Instr.slice, Instr.sliceBounds, Instr.sliceBound, run_underlying ht, asIntOf, sizeOf, typeInfo, hi, hsz, h1]
  intro h
  omega
/-- A list that stays as it is. -/
def SlK (Ws : World) (gr gw bf : Nat) (R : Option Addr) (l : List Int) : Prop := ∀ i x, l[i]? = some x → ∃ b o, R = some ⟨b, o, none⟩ ∧ b ≠ gr ∧ b ≠ gw ∧ b ≠ bf ∧ Ws.cell? ⟨b, o + i, none⟩ = some (.int .i64 x)
theorem SlK.tail {Ws : World} {gr gw bf : Nat} {R : Option Addr} {l : List Int} (h : SlK Ws gr gw bf R l) {c : Nat} (hc : l.length ≤ c) (m : Nat) : SlK Ws gr gw bf (if c = m then R else R.map (·.add m)) (l.drop m) := by
  intro j x hx
  rw [List.getElem?_drop] at hx
  have hlt : m + j < l.length := (List.getElem?_eq_some_iff.1 hx).1
  obtain ⟨b, o, rfl, h1, h2, h3, h4⟩ := h _ x hx
  rw [if_neg (by omega)]
  refine ⟨b, o + m, ?_, h1, h2, h3, by rw [Nat.add_assoc]; exact h4⟩
  show some _ = some _
  unfold Addr.add
  split <;> simp_all
theorem visit_c (w0 Ws : World) (gr gw bf cnt bl bc bw Bn Bf Bs Bv : Nat) (A C : Option Addr) (L : List SiteD) (ch : List Int) (c1 c2 : Nat)
    (st : Stat w0 Ws gr gw bf cnt bl bc bw Bn Bf Bs Bv A C L ch c1 c2) : ∀ (m n : Nat) (rest : List Int) (R : Option Addr) (c : Nat) (p : List Int) (S : List Int × Int) (wr : World), n + m = cnt → p.length = n → Vis w0 Ws wr gr gw bf cnt p S → SlK Ws gr gw bf R rest → rest.length ≤ c → rest.length ≤ 100000 →
    Calls Try.prog 89 #[.int .i64 (n : Int), .slice R rest.length c, .pointer (some ⟨Bn, 0, none⟩), .pointer (some ⟨Bf, 0, none⟩), .pointer (some ⟨Bs, 0, none⟩), .pointer (some ⟨Bv, 0, none⟩)] wr
      fun e w' => e = .returned (.tuple #[]) ∧ Vis w0 Ws w' gr gw bf cnt p (visS L ch m rest p S) := by
  intro m
  induction m with
  | zero =>
    intro n rest R c p S wr hn hp hv hr hrc hc
    have hcn : n = cnt := by omega
    have HCB := Lib.hid (cb_c w0 Ws wr gr gw bf cnt bl bc bw A C L ch c1 c2 p S hv (by omega) st.hcnt st.hx0 st.g1 st.g2 st.g3 st.n1 st.n2 st.n3 st.k1 st.k2 st.k3 st.d1 st.d2 st.d3 st.h1 st.h2 st.hL st.hc st.hvl)
    rw [← visS_zero L ch rest p S] at HCB
    have a4 := hv.cell st.k4 st.d4.1 st.d4.2.1 st.d4.2.2
    have a5 := hv.cell st.k5 st.d5.1 st.d5.2.1 st.d5.2.2
    have a6 := hv.cell st.k6 st.d6.1 st.d6.2.1 st.d6.2.2
    obtain ⟨q, hq⟩ : ∃ q, q = rest.length := ⟨_, rfl⟩
    rw [← hq]
    clear hv hr st hq hrc hc
    subst hcn
    go_enter Try.func89, Try.ntmps89
    go_wp2_with (go_at_call 60; refine HCB.out.mono ?_; rintro e w1 ⟨rfl, hv1⟩; have HV1 := Lib.hid hv1; clear hv1)
    exact bodyPost_ret (v := .tuple #[]) (by simp [results, Try.results89]) rfl ⟨rfl, HV1.out⟩
  | succ m ih =>
    intro n rest R c p S wr hn hp hv hr hrc hc
    obtain ⟨i0, hi, hz0, hz1, hz2⟩ := info_parts info3
    have HI := Lib.hid hi
    have HZ1 := Lib.hid hz1
    clear hi hz0 hz1 hz2
    have HIH := Lib.hid ih
    have HST := Lib.hid st
    have HV := Lib.hid hv
    have HR := Lib.hid hr
    obtain ⟨q, hq⟩ : ∃ q, q = rest.length := ⟨_, rfl⟩
    rw [← hq] at hrc hc ⊢
    have HQ := Lib.hid hq
    have hcnt := st.hcnt
    clear ih st hr hq
    have a4 := hv.cell HST.out.k4 HST.out.d4.1 HST.out.d4.2.1 HST.out.d4.2.2
    clear hv
    have hne : ((n : Int) == (cnt : Int)) = false := by simp; omega
    go_enter Try.func89, Try.ntmps89
    go_wp2
    go_loopw [8] (fun v wx => ∃ i : Nat, i ≤ q ∧ v = .int .i64 i ∧ ∃ S', Vis w0 Ws wx gr gw bf cnt p S' ∧ visS L ch (m + 1) (rest.drop i) p S' = visS L ch (m + 1) rest p S) (fun v _ => q - (intOf v).toNat)
    case atStart => exact ⟨0, Nat.zero_le _, rfl, S, HV.out, rfl⟩
    case round =>
      clear HV a4
      obtain ⟨i, hi, rfl, S', hv, hs⟩ := hrel
      have HV := Lib.hid hv
      have HS := Lib.hid hs
      have a4 := hv.cell HST.out.k4 HST.out.d4.1 HST.out.d4.2.1 HST.out.d4.2.2
      have a6 := hv.cell HST.out.k6 HST.out.d6.1 HST.out.d6.2.1 HST.out.d6.2.2
      have a7 := hv.cell HST.out.k7 HST.out.d7.1 HST.out.d7.2.1 HST.out.d7.2.2
      clear hv hs
      by_cases hlt : i + (m + 1) ≤ q
      · have hil : i < rest.length := by rw [← HQ.out]; omega
        obtain ⟨x, hx⟩ : ∃ x, rest[i]? = some x := ⟨_, List.getElem?_eq_getElem hil⟩
        obtain ⟨b, o, rfl, e1, e2, e3, e4⟩ := HR.out i x hx
        have a8 := HV.out.cell e4 e1 e2 e3
        have HX := Lib.hid hx
        have hcl : (i : Int) + cnt - n ≤ q := by omega
        have hil2 : i < q := by omega
        obtain ⟨cur, r1, r2, _⟩ := HV.out.row
        have r3 : wr.cell? ⟨gr, n, none⟩ = some cur[n] := by rw [blk_cell r1, Array.getElem?_eq_getElem (by omega)]
        have r4 := blk_frozen r1 n
        have hn0 : (0 : Int) ≤ (n : Int) := by omega
        have hn1 : (n : Int) < (cnt : Int) := by omega
        have hi0 : (0 : Int) ≤ (i : Int) := by omega
        have hi1 : (i : Int) < (q : Int) := by omega
        clear hx hil e4 r1
        obtain ⟨u, hu⟩ : ∃ u, u = cur[n] := ⟨_, rfl⟩
        rw [← hu] at r3
        clear hu
        go_wp2
        go_region
        have hv5 : Vis w0 Ws (wr.setCell ⟨gr, n, none⟩ (.int .i64 x)).drew gr gw bf cnt (p ++ [x]) S' := by
          have := HV.out.put HST.out.n1 HST.out.n2 x (by omega)
          rw [hp] at this
          exact this.ext (Ext.refl _).drew
        generalize (wr.setCell ⟨gr, n, none⟩ (.int .i64 x)).drew = w5 at hv5 ⊢
        have HV5 := Lib.hid hv5
        have c7 := hv5.cell HST.out.k7 HST.out.d7.1 HST.out.d7.2.1 HST.out.d7.2.2
        clear hv5 a4 a6 a7 a8 r3 r4
        go_wp2
        have HCALL := Lib.hid (fun w6 (v6 : Vis w0 Ws w6 gr gw bf cnt (p ++ [x]) S') => HIH.out (n + 1) (rest.drop (i + 1)) _ (c - (i + 1)) (p ++ [x]) S' w6 (by omega) (by simp; omega) v6 (HR.out.tail (by rw [← HQ.out]; exact hrc) (i + 1)) (by rw [List.length_drop, ← HQ.out]; omega) (by rw [List.length_drop, ← HQ.out]; omega))
        rw [List.length_drop, ← HQ.out] at HCALL
        rw [show ((n + 1 : Nat) : Int) = (n : Int) + 1 from rfl] at HCALL
        have hq1 : (i : Int) + 1 ≤ (q : Int) := by omega
        have hq2 : (0 : Int) ≤ (i : Int) + 1 := by omega
        have hq3 : ((i : Int) + 1).toNat = i + 1 := by omega
        have hw1 : IntKind.i64.wrap ((i : Int) + 1) = (i : Int) + 1 := IntWalk.i64_in _ (by omega)
        have hw2 : IntKind.i64.wrap ((n : Int) + 1) = (n : Int) + 1 := IntWalk.i64_in _ (by omega)
        by_cases hci : c = i + 1
        · rw [if_pos hci] at HCALL
          subst hci
          rw [show q - (i + 1) = 0 by omega, Nat.sub_self] at HCALL
          go_region_held3 (fun w' => w'.cell? ⟨Bv, 0, none⟩ = some (.func (.func 89) #[] #[.pointer (some ⟨Bn, 0, none⟩), .pointer (some ⟨Bf, 0, none⟩), .pointer (some ⟨Bs, 0, none⟩), .pointer (some ⟨Bv, 0, none⟩)])) (go_keep) ((go_at_call 89; refine (HCALL.out _ (HV5.out.ext (by first | exact Ext.refl _ | exact (Ext.refl _).drew | exact (Ext.refl _).drewN _))).mono ?_; rintro e w7 ⟨rfl, hv7⟩; have HV7 := Lib.hid hv7; have f7 := hv7.cell HST.out.k7 HST.out.d7.1 HST.out.d7.2.1 HST.out.d7.2.2; clear hv7))
          all_goals go_wp2
          all_goals refine ⟨⟨i + 1, by omega, by go_num, _, HV7.out.pre, ?_⟩, by simp [intOf]; omega⟩
          all_goals rw [← HS.out, drop_cons HX.out, visS_cons]
        · rw [if_neg hci, show Option.map (fun x => x.add (i + 1)) (some (⟨b, o, none⟩ : Addr)) = some ⟨b, o + (i + 1), none⟩ from rfl] at HCALL
          go_region_held3 (fun w' => w'.cell? ⟨Bv, 0, none⟩ = some (.func (.func 89) #[] #[.pointer (some ⟨Bn, 0, none⟩), .pointer (some ⟨Bf, 0, none⟩), .pointer (some ⟨Bs, 0, none⟩), .pointer (some ⟨Bv, 0, none⟩)])) (go_keep) ((go_at_call 89; refine (HCALL.out _ (HV5.out.ext (by first | exact Ext.refl _ | exact (Ext.refl _).drew | exact (Ext.refl _).drewN _))).mono ?_; rintro e w7 ⟨rfl, hv7⟩; have HV7 := Lib.hid hv7; have f7 := hv7.cell HST.out.k7 HST.out.d7.1 HST.out.d7.2.1 HST.out.d7.2.2; clear hv7))
          all_goals go_wp2
          all_goals refine ⟨⟨i + 1, by omega, by go_num, _, HV7.out.pre, ?_⟩, by simp [intOf]; omega⟩
          all_goals rw [← HS.out, drop_cons HX.out, visS_cons]
      · have HE : Hid (visS L ch (m + 1) rest p S = S') := by
          show _ = _
          rw [← HS.out, visS_short _ _ _ _ _ _ (by rw [List.length_drop, ← HQ.out]; omega)]
        have hcl : ¬ (i : Int) + cnt - n ≤ q := by omega
        go_wp2
        exact bodyPost_end (v := .tuple #[]) (by simp [results, Try.results89]) rfl ⟨rfl, by rw [HE.out]; exact HV.out⟩
end Go.Proofs.Ytbhcaniopdgjkaa
