import Derived.Test.YtbhcaniopdgjkaaMg17
import Derived.Laws.EntriesVeiled
namespace Go.Proofs.Ytbhcaniopdgjkaa
open Go Go.Proofs Go.RowKit
open Plain (SiteD)
set_option maxHeartbeats 1000000
set_option maxRecDepth 100000
/-- The row that make lays. -/
def mkRow (n : Nat) : Array Value := ((List.replicate n (0 : Int)).map (Value.int .i64)).toArray
theorem mkRow_size (n : Nat) : (mkRow n).size = n := by simp [mkRow]
theorem made_eq (n : Nat) : madeCells (Value.int .i64 0).cells (n * 1) = mkRow n := by
  have := toList_madeCells_one (.int .i64 0) n
  rw [Nat.mul_one]
  show madeCells #[.int .i64 0] n = _
  unfold mkRow
  rw [List.map_replicate, ← this]
theorem make_run (w : World) (n : Nat) (h : n ≤ 1000000) : (Instr.makeSlice 23 (.int .i64 (n : Int)) (.int .i64 (n : Int))).run Try.prog w = .ok (.slice (some ⟨w.heap.size, 0, none⟩) n n) (w.alloc (.cells (mkRow n) 3)) := by
  obtain ⟨i0, hi, hz0, hz1, hz2⟩ := info_parts info3
  have := run_make (P := Try.prog) w 23 3 i0 (.int .i64 0) Try.underlying23 hi hz0 .i64 .i64 n n (by omega) (by omega) (by rw [hz2]; omega) (by omega)
  rw [hz1] at this
  simp only [Int.toNat_natCast] at this
  rw [made_eq] at this
  exact this
/-- What holds when the sets begin to be visited. -/
structure Pre (w0 w1 : World) (gw bf cnt bl bc bw : Nat) (A C : Option Addr) (L : List SiteD) (ch : List Int) (c1 c2 : Nat) (S : List Int × Int) : Prop where
  hcnt : cnt ≤ 12
  hx0 : Ext w0 w1
  g2 : w0.heap.size ≤ gw
  g3 : w0.heap.size ≤ bf
  n3 : gw ≠ bf
  k1 : w1.cell? ⟨bl, 0, none⟩ = some (.slice A L.length c1)
  k2 : w1.cell? ⟨bc, 0, none⟩ = some (.slice C ch.length c2)
  k3 : w1.cell? ⟨bw, 0, none⟩ = some (.slice (some ⟨gw, 0, none⟩) cnt cnt)
  d1 : bl ≠ gw ∧ bl ≠ bf
  d2 : bc ≠ gw ∧ bc ≠ bf
  d3 : bw ≠ gw ∧ bw ≠ bf
  wor : w1.heap[gw]? = some (.cells (S.1.map (Value.int .i64)).toArray 3 (0, 0))
  worl : S.1.length = cnt
  few : w1.heap[bf]? = some (.cells #[.int .i64 S.2] 3 (0, 0))
  h1 : Sites w0 A L
  h2 : Sl w0 .i64 C ch
  hL : L.length ≤ 10
  hc : ch.length ≤ 10
  hvl : ∀ i ∈ ch, 0 ≤ i ∧ i < L.length
def SlK2 (w1 : World) (gw bf : Nat) (R : Option Addr) (l : List Int) : Prop := ∀ i x, l[i]? = some x → ∃ b o, R = some ⟨b, o, none⟩ ∧ b ≠ gw ∧ b ≠ bf ∧ w1.cell? ⟨b, o + i, none⟩ = some (.int .i64 x)
/-- What holds when all sets have been visited. -/
structure Post (w1 w' : World) (gw bf cnt : Nat) (S : List Int × Int) : Prop where
  os : w'.os = w1.os
  tape : w'.tape = w1.tape
  output : w'.output = w1.output
  size : w1.heap.size ≤ w'.heap.size
  keep : ∀ b, b < w1.heap.size → b ≠ gw → b ≠ bf → w'.heap[b]? = w1.heap[b]?
  wor : w'.heap[gw]? = some (.cells (S.1.map (Value.int .i64)).toArray 3 (0, 0))
  few : w'.heap[bf]? = some (.cells #[.int .i64 S.2] 3 (0, 0))
  worl : S.1.length = cnt
def fn60 (bl bc bf bw : Nat) : Value := .func (.func 60) #[] #[.pointer (some ⟨bl, 0, none⟩), .pointer (some ⟨bc, 0, none⟩), .pointer (some ⟨bf, 0, none⟩), .pointer (some ⟨bw, 0, none⟩)]
def fn89 (H : Nat) : Value := .func (.func 89) #[] #[.pointer (some ⟨H, 0, none⟩), .pointer (some ⟨H + 1, 0, none⟩), .pointer (some ⟨H + 1 + 1 + 1, 0, none⟩), .pointer (some ⟨H + 1 + 1 + 1 + 1, 0, none⟩)]
/-- The world in which the first call is made. -/
def wCho (w1 : World) (cnt : Nat) (f60 : Value) : World :=
  ((((w1.alloc (.cells #[.int .i64 (cnt : Int)] 3)).alloc (.cells #[f60] 75)).alloc (.cells (mkRow cnt) 3)).alloc (.cells #[.slice (some ⟨w1.heap.size + 1 + 1, 0, none⟩) cnt cnt] 23)).alloc (.cells #[fn89 w1.heap.size] 100)
theorem blk_lt {w : World} {g : Nat} {o : Obj} (h : w.heap[g]? = some o) : g < w.heap.size := (Array.getElem?_eq_some_iff.1 h).1
theorem cho_x (w1 : World) (cnt : Nat) (f : Value) : Ext w1 (wCho w1 cnt f) := (((((Ext.refl w1).alloc _).alloc _).alloc _).alloc _).alloc _
theorem alloc_size (w : World) (o : Obj) : (w.alloc o).heap.size = w.heap.size + 1 := by simp
theorem alloc_heap (w : World) (o : Obj) (k : Nat) : (w.alloc o).heap[k]? = if k = w.heap.size then some o else w.heap[k]? := by
  show (w.heap.push o)[k]? = _
  rw [Array.getElem?_push]
theorem cho_blk (w1 : World) (cnt : Nat) (f : Value) :
    (wCho w1 cnt f).heap[w1.heap.size]? = some (.cells #[.int .i64 (cnt : Int)] 3 (0, 0)) ∧ (wCho w1 cnt f).heap[w1.heap.size + 1]? = some (.cells #[f] 75 (0, 0)) ∧ (wCho w1 cnt f).heap[w1.heap.size + 1 + 1]? = some (.cells (mkRow cnt) 3 (0, 0)) ∧
    (wCho w1 cnt f).heap[w1.heap.size + 1 + 1 + 1]? = some (.cells #[.slice (some ⟨w1.heap.size + 1 + 1, 0, none⟩) cnt cnt] 23 (0, 0)) ∧ (wCho w1 cnt f).heap[w1.heap.size + 1 + 1 + 1 + 1]? = some (.cells #[fn89 w1.heap.size] 100 (0, 0)) := by
  unfold wCho
  refine ⟨?_, ?_, ?_, ?_, ?_⟩
  all_goals simp only [alloc_heap, alloc_size]
  · rw [if_neg (by omega), if_neg (by omega), if_neg (by omega), if_neg (by omega), if_pos trivial]
  · rw [if_neg (by omega), if_neg (by omega), if_neg (by omega), if_pos trivial]
  · rw [if_neg (by omega), if_neg (by omega), if_pos trivial]
  · rw [if_neg (by omega), if_pos trivial]
  · rw [if_pos trivial]
theorem choices_c (w0 w1 : World) (gw bf cnt bl bc bw : Nat) (A C : Option Addr) (L : List SiteD) (ch : List Int) (c1 c2 : Nat) (S : List Int × Int) (hp : Pre w0 w1 gw bf cnt bl bc bw A C L ch c1 c2 S)
    (R : Option Addr) (l : List Int) (c : Nat) (hr : SlK2 w1 gw bf R l) (hl : l.length ≤ c) (hcc : l.length ≤ 100000) :
    Calls Try.prog 59 #[.slice R l.length c, .int .i64 (cnt : Int), fn60 bl bc bf bw] w1 fun e w' => e = .returned (.tuple #[]) ∧ Post w1 w' gw bf cnt (visS L ch cnt l [] S) := by
  obtain ⟨b0, b1, b2, b3, b4⟩ := cho_blk w1 cnt (fn60 bl bc bf bw)
  have hx := cho_x w1 cnt (fn60 bl bc bf bw)
  have l1 := World.block_lt_of_cell? w1 _ hp.k1
  have l2 := World.block_lt_of_cell? w1 _ hp.k2
  have l3 := World.block_lt_of_cell? w1 _ hp.k3
  have l4 := blk_lt hp.wor
  have l5 := blk_lt hp.few
  simp only at l1 l2 l3
  have hx0s := hp.hx0.size
  have st : Stat w0 (wCho w1 cnt (fn60 bl bc bf bw)) (w1.heap.size + 1 + 1) gw bf cnt bl bc bw w1.heap.size (w1.heap.size + 1) (w1.heap.size + 1 + 1 + 1) (w1.heap.size + 1 + 1 + 1 + 1) A C L ch c1 c2 :=
    ⟨hp.hcnt, hp.hx0.trans hx, by omega, hp.g2, hp.g3, by omega, by omega, hp.n3, hx.cell hp.k1, hx.cell hp.k2, hx.cell hp.k3, blk_cell b0 0, blk_cell b1 0, blk_cell b3 0, blk_cell b4 0,
      ⟨by omega, hp.d1.1, hp.d1.2⟩, ⟨by omega, hp.d2.1, hp.d2.2⟩, ⟨by omega, hp.d3.1, hp.d3.2⟩, ⟨by omega, by omega, by omega⟩, ⟨by omega, by omega, by omega⟩, ⟨by omega, by omega, by omega⟩, ⟨by omega, by omega, by omega⟩, hp.h1, hp.h2, hp.hL, hp.hc, hp.hvl⟩
  have hv : Vis w0 (wCho w1 cnt (fn60 bl bc bf bw)) (wCho w1 cnt (fn60 bl bc bf bw)) (w1.heap.size + 1 + 1) gw bf cnt [] S :=
    ⟨rfl, rfl, rfl, Nat.le_refl _, fun _ _ _ _ _ => rfl, ⟨_, b2, mkRow_size cnt, rfl⟩, ext_blk hx hp.wor, hp.worl, ext_blk hx hp.few⟩
  have HCALL := Lib.hid (visit_c _ _ _ _ _ _ _ _ _ _ _ _ _ A C L ch c1 c2 st cnt 0 l R c [] S _ (by omega) rfl hv (fun i x hi => by
    obtain ⟨b, o, h1, h2, h3, h4⟩ := hr i x hi
    have := World.block_lt_of_cell? w1 _ h4
    simp only at this
    exact ⟨b, o, h1, by omega, h2, h3, hx.cell h4⟩) hl hcc)
  have hmk := make_run ((w1.alloc (.cells #[.int .i64 (cnt : Int)] 3)).alloc (.cells #[fn60 bl bc bf bw] 75)) cnt (by have := hp.hcnt; omega)
  have HPO := Lib.hid (fun w' (v' : Vis w0 (wCho w1 cnt (fn60 bl bc bf bw)) w' (w1.heap.size + 1 + 1) gw bf cnt [] (visS L ch cnt l [] S)) => (⟨v'.os, v'.tape, v'.output, Nat.le_trans hx.size v'.size, fun b hb h1 h2 => (v'.keep b (Nat.lt_of_lt_of_le hb hx.size) (by omega) h1 h2).trans (hx.block b hb), v'.wor, v'.few, v'.worl⟩ : Post w1 w' gw bf cnt (visS L ch cnt l [] S)))
  have HC2 := Lib.hid (HCALL.out.mono fun e w' h => (⟨h.1, HPO.out w' h.2⟩ : e = .returned (.tuple #[]) ∧ Post w1 w' gw bf cnt (visS L ch cnt l [] S)))
  unfold wCho at HC2
  unfold fn60 at *
  unfold fn89 at *
  rw [alloc_size, alloc_size] at hmk
  clear hv st b0 b1 b2 b3 b4 hx l1 l2 l3 l4 l5 HCALL HPO
  go_enter Try.func59, Try.ntmps59
  go_wp2_with (go_at_call 89; refine HC2.out.mono ?_; rintro e w' ⟨rfl, hpo⟩; have HPO := Lib.hid hpo; clear hpo)
  exact bodyPost_end (v := .tuple #[]) (by simp [results, Try.results59]) rfl ⟨rfl, HPO.out⟩
end Go.Proofs.Ytbhcaniopdgjkaa
