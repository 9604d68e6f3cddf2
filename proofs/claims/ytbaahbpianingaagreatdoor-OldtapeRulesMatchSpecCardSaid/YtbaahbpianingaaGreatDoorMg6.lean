import Derived.Test.YtbaahbpianingaaGreatDoorMg3
import Derived.Test.YtbaahbpianingaaGreatDoorMg5
import Derived.Deep.RegionHeld3
namespace Go.Proofs.YtbaahbpianingaaGreatDoor
open Go Go.Proofs Go.RowKit
open Tape (Rule Ts splitP)
set_option maxHeartbeats 6400000
set_option maxRecDepth 100000
theorem splitP_le (c : Int) : ∀ (l : List Int) (p : List Int), p ∈ splitP c l → p.length ≤ l.length
  | [], p, h => by simp [splitP] at h; simp [h]
  | x :: l, p, h => by
    rw [splitP] at h
    split at h
    · rcases List.mem_cons.1 h with e | e
      · rw [e]; simp
      · have := splitP_le c l p e; simp; omega
    · obtain ⟨q, qs, hq⟩ := Tape.splitP_cons c l
      rw [hq] at h
      rcases List.mem_cons.1 h with e | e
      · have := splitP_le c l q (by rw [hq]; simp)
        rw [e]; simp; omega
      · have := splitP_le c l p (by rw [hq]; exact List.mem_cons_of_mem _ e)
        simp; omega
theorem keep_row {W : World} {g b o : Nat} {c : Array Value} {v : Value} (h : W.cell? ⟨b, o, none⟩ = some v) (hne : b ≠ g) : (W.setRow g c).cell? ⟨b, o, none⟩ = some v := (World.cell?_of_block (a := ⟨b, o, none⟩) (setRow_other W g b c (by omega))).trans h
theorem results_ct {P : Program} {fn : Func} {u q : Tmp} {tq : TypeId} (h : fn.results = #[.cell q tq, .tmp u]) (tmps : Array Value) (w : World) (g' : Nat) (t' : TypeId) (cs' : Array Value) (fr' : Nat × Nat) (d' : TypeDesc)
    (hq : tmps.getD q undef = .pointer (some ⟨g', 0, none⟩)) (hg' : w.heap[g']? = some (.cells cs' t' fr')) (hu' : P.underlying tq = some d') (hd' : (match d' with | .struct _ | .array _ _ => true | _ => false) = true) (hi' : (P.info? tq).map (·.size) = some cs'.size) :
    (results fn tmps).run P w = .ok (.tuple #[.agg cs', tmps.getD u undef]) w := by
  have hq' : tmps[q]?.getD undef = .pointer (some ⟨g', 0, none⟩) := by simpa using hq
  simp [results, h, hq', asAddr, run_loadVar_row w g' t' tq cs' fr' d' hg' hu' hd' hi']
def zR : Rule := ⟨0, 0, 0, 0, 0⟩
def RuleRet (w : World) (S : ByteArray) (e : Ending) (w' : World) : Prop :=
  Ext w w' ∧ ∃ r ok, e = .returned (.tuple #[.agg (ruleV r).toArray, .bool ok]) ∧ (ok = true → Tape.rdRule (numsT S) = some r) ∧ (ok = false → Tape.rdRule (numsT S) = none)
theorem rule_no {w w' : World} {S : ByteArray} {r : Rule} (hn : Tape.rdRule (numsT S) = none) (hx : Ext w w') : RuleRet w S (.returned (.tuple #[.agg (ruleV r).toArray, .bool false])) w' :=
  ⟨hx, r, false, rfl, (fun h => by cases h), fun _ => hn⟩
theorem rule_yes {w w' : World} {S : ByteArray} {r : Rule} (hn : Tape.rdRule (numsT S) = some r) (hx : Ext w w') : RuleRet w S (.returned (.tuple #[.agg (ruleV r).toArray, .bool true])) w' :=
  ⟨hx, r, true, rfl, fun _ => hn, (fun h => by cases h)⟩
theorem rule_len {l : List Int} (h : (splitP 32 l).length ≠ 5) : Tape.rdRule l = none := by
  unfold Tape.rdRule
  split
  · rename_i a b c d e hs
    rw [hs] at h
    exact absurd rfl h
  · rfl
/-- The pieces of a line. -/
structure Pcs (S : ByteArray) (P : List ByteArray) : Prop where
  nums : P.map numsT = splitP 32 (numsT S)
  call : ∀ (w W : World), TabT w → Ext w W → Calls Tryz.prog 54 #[.string S, .string ⟨#[32]⟩] W fun e w' => e = .returned (.slice (some ⟨W.heap.size, 0, none⟩) P.length P.length) ∧ w' = W.alloc (.cells (P.map Value.string).toArray 9)
theorem pcs_mk (S : ByteArray) (hl : S.size ≤ 4000) : ∃ P, Pcs S P := by
  have hs := splitB_nums 32 S
  refine ⟨Lib.splitB ⟨#[32]⟩ 0 (Lib.countB S ⟨#[32]⟩) S, hs.1, fun w W ht hx => ?_⟩
  obtain ⟨m, hm⟩ := ht.m
  have hc : Lib.countB S ⟨#[32]⟩ + 1 = (Lib.splitB ⟨#[32]⟩ 0 (Lib.countB S ⟨#[32]⟩) S).length := by
    rw [hs.2, ← hs.1, List.length_map]
  have := Tryz.strings_Split S ⟨#[32]⟩ m W (by omega) (hx.cell hm) (by decide)
  rw [hc] at this
  exact this
theorem Pcs.le {S : ByteArray} {P : List ByteArray} (h : Pcs S P) {p : ByteArray} (hp : p ∈ P) : p.size ≤ S.size := by
  have := splitP_le 32 (numsT S) (numsT p) (by rw [← h.nums]; exact List.mem_map.2 ⟨p, hp, rfl⟩)
  rw [numsT_len, numsT_len] at this
  exact this
theorem Pcs.len_le {S : ByteArray} {P : List ByteArray} (h : Pcs S P) : P.length ≤ S.size + 1 := by
  have key : ∀ l : List Int, (splitP (32 : Int) l).length ≤ l.length + 1 := by
    intro l
    induction l with
    | nil => simp [splitP]
    | cons x l ih =>
      rw [splitP]
      split
      · simp; omega
      · obtain ⟨q, qs, hq⟩ := Tape.splitP_cons (32 : Int) l
        rw [hq] at ih ⊢
        simp at ih ⊢; omega
  have := key (numsT S)
  rw [← h.nums, List.length_map, numsT_len] at this
  exact this
theorem rule_short (S : ByteArray) (w : World) (_hl : S.size ≤ 4000) (ht : TabT w) (P : List ByteArray) (hp : Pcs S P) (h5 : P.length ≠ 5) : Calls Tryz.prog 41 #[.string S] w (RuleRet w S) := by
  have HN : Hid (Tape.rdRule (numsT S) = none) := Lib.hid (rule_len (by rw [← hp.nums, List.length_map]; exact h5))
  have HSP := Lib.hid (fun (W : World) (x : Ext w W) => hp.call w W ht x)
  have hpl := hp.len_le
  have hn : ((P.length : Int) != 5) = true := by simp; omega
  obtain ⟨n, hnn⟩ : ∃ n, n = P.length := ⟨_, rfl⟩
  obtain ⟨cz, hcz⟩ : ∃ cz, cz = (P.map Value.string).toArray := ⟨_, rfl⟩
  rw [← hnn, ← hcz] at HSP
  rw [← hnn] at hn hpl h5
  clear hnn hcz hp ht
  go_enter Tryz.func41, Tryz.ntmps41
  have HZ := Lib.hid (fun o => heap_alloc2_old w (.cells #[.int .i64 0, .int .i64 0, .int .i64 0, .int .i64 0, .int .i64 0] 54) o)
  go_wp2_with (first | (go_at_call 54; refine (HSP.out _ ((Ext.refl w).alloc _)).mono ?_; rintro e w' ⟨rfl, rfl⟩) | refine wpList_store_row rfl 54 _ _ rfl w.heap.size (ruleV zR).toArray rfl rfl 54 _ (HZ.out _) sizeR rfl (ruleV_one _) ?_)
  refine bodyPost_ret (results_ct Tryz.results41 _ _ w.heap.size 54 (ruleV zR).toArray (0, 0) _ rfl (setRow_heap _ _ _ _ _ _ (HZ.out _)) Tryz.underlying54 rfl sizeR) rfl (rule_no HN.out ((((Ext.refl w).alloc _).alloc _).setRow (Nat.le_refl _) _))
structure RrIs (w wx : World) (P : List ByteArray) (a0 a1 a2 : Int) : Prop where
  b : wx.heap[w.heap.size]? = some (.cells (ruleV zR).toArray 54 (0, 0))
  p : wx.heap[w.heap.size + 1]? = some (.cells (P.map Value.string).toArray 9 (0, 0))
  a : wx.heap[w.heap.size + 2]? = some (.cells #[.int .i64 a0, .int .i64 a1, .int .i64 a2] 87 (0, 0))
  x : Ext w wx
section
variable {w wx w2 : World} {P : List ByteArray} {a0 a1 a2 : Int}
theorem RrIs.ext (h : RrIs w wx P a0 a1 a2) (e : Ext wx w2) : RrIs w w2 P a0 a1 a2 := ⟨ext_heap e h.b, ext_heap e h.p, ext_heap e h.a, h.x.trans e⟩
theorem RrIs.lt (h : RrIs w wx P a0 a1 a2) : w.heap.size + 2 < wx.heap.size := (Array.getElem?_eq_some_iff.1 h.a).1
theorem RrIs.set (h : RrIs w wx P a0 a1 a2) (k : Nat) (n b0 b1 b2 : Int) (he : (#[.int .i64 a0, .int .i64 a1, .int .i64 a2] : Array Value).setIfInBounds k (.int .i64 n) = #[.int .i64 b0, .int .i64 b1, .int .i64 b2]) : RrIs w (wx.setCell ⟨w.heap.size + 2, k, none⟩ (.int .i64 n)) P b0 b1 b2 := by
  have hk : ∀ g, g ≠ w.heap.size + 2 → (wx.setCell ⟨w.heap.size + 2, k, none⟩ (.int .i64 n)).heap[g]? = wx.heap[g]? := fun g hg => Below.heap_setCell wx ⟨w.heap.size + 2, k, none⟩ _ g hg
  refine ⟨(hk _ (by omega)).trans h.b, (hk _ (by omega)).trans h.p, ?_, h.x.setCell (p := ⟨w.heap.size + 2, k, none⟩) (by show w.heap.size ≤ w.heap.size + 2; omega) _⟩
  rw [← he]
  exact heap_set_self h.a k _
end
/-- The first k numbers have been read. -/
structure NumsTo (p0 p1 p2 : ByteArray) (k : Nat) (a0 a1 a2 : Int) : Prop where
  c0 : 1 ≤ k → ∃ n : Nat, Tape.rdNum (numsT p0) = some n ∧ a0 = n
  c1 : 2 ≤ k → ∃ n : Nat, Tape.rdNum (numsT p1) = some n ∧ a1 = n
  c2 : 3 ≤ k → ∃ n : Nat, Tape.rdNum (numsT p2) = some n ∧ a2 = n
theorem five_no {a b c d e : List Int} (h : Tape.rdNum a = none ∨ Tape.rdNum b = none ∨ Tape.rdNum c = none ∨ Tape.mvOf d = none ∨ Tape.nxOf e = none) : Tape.rdFive a b c d e = none := by
  unfold Tape.rdFive
  split
  · rename_i h1 h2 h3 h4 h5
    rw [h1, h2, h3, h4, h5] at h
    simp at h
  · rfl
theorem mv_index {p : ByteArray} (h : p.size = 1) : (Tape.mvOf (numsT p) = none ∧ Lib.index [76, 83, 82] p.data.toList = -1) ∨ ∃ m, Tape.mvOf (numsT p) = some m ∧ Lib.index [76, 83, 82] p.data.toList = m + 1 ∧ -1 ≤ m ∧ m ≤ 1 := by
  have hl : p.data.toList.length = 1 := by rw [Array.length_toList]; exact h
  obtain ⟨c, hc⟩ : ∃ c, p.data.toList = [c] := List.length_eq_one_iff.1 hl
  rw [nums_of, hc, index_single]
  by_cases h1 : c = 76
  · subst h1; right; exact ⟨-1, by decide, by decide, by decide, by decide⟩
  by_cases h2 : c = 83
  · subst h2; right; exact ⟨0, by decide, by decide, by decide, by decide⟩
  by_cases h3 : c = 82
  · subst h3; right; exact ⟨1, by decide, by decide, by decide, by decide⟩
  left
  refine ⟨?_, ?_⟩
  · have e : nums8 [c] = [(c.toNat : Int)] := rfl
    rw [e]
    unfold Tape.mvOf
    have n1 : ¬ ([(c.toNat : Int)] = [76]) := fun q => h1 (nat8_inj c 76 (by injection q))
    have n2 : ¬ ([(c.toNat : Int)] = [83]) := fun q => h2 (nat8_inj c 83 (by injection q))
    have n3 : ¬ ([(c.toNat : Int)] = [82]) := fun q => h3 (nat8_inj c 82 (by injection q))
    rw [if_neg n1, if_neg n2, if_neg n3]
  · rw [if_neg]
    intro q
    simp only [List.mem_cons, List.not_mem_nil, or_false] at q
    rcases q with q | q | q
    · exact h1 q
    · exact h2 q
    · exact h3 q
theorem mv_long {p : ByteArray} (h : p.size ≠ 1) : Tape.mvOf (numsT p) = none := by
  have hl : (numsT p).length ≠ 1 := by rw [numsT_len]; exact h
  unfold Tape.mvOf
  rw [if_neg (fun q => hl (by rw [q]; rfl)), if_neg (fun q => hl (by rw [q]; rfl)), if_neg (fun q => hl (by rw [q]; rfl))]
theorem index_hi : ∀ (u s : List UInt8), Lib.index u s ≤ u.length
  | [], s => by rw [Lib.index]; split <;> simp
  | b :: l, s => by
    have := index_hi l s
    rw [Lib.index]
    split
    · simp; omega
    · split
      · simp; omega
      · simp; omega
theorem nx_h {p : ByteArray} (h : p = ⟨#[72]⟩) : Tape.nxOf (numsT p) = some (-1) := by subst h; decide
theorem nx_num {p : ByteArray} (h : p ≠ ⟨#[72]⟩) : Tape.nxOf (numsT p) = (Tape.rdNum (numsT p)).map (fun n : Nat => (n : Int)) := by
  unfold Tape.nxOf
  rw [if_neg]
  intro q
  apply h
  rw [← str_numsT p, q]
  rfl
/-- The rule has been put together. -/
structure RsIs (w wx : World) (P : List ByteArray) (g : Nat) (r : Rule) : Prop where
  b : wx.heap[w.heap.size]? = some (.cells (ruleV zR).toArray 54 (0, 0))
  p : wx.heap[w.heap.size + 1]? = some (.cells (P.map Value.string).toArray 9 (0, 0))
  r : wx.heap[g]? = some (.cells (ruleV r).toArray 54 (0, 0))
  lt : w.heap.size + 2 < g
  x : Ext w wx
section
variable {w wx w2 : World} {P : List ByteArray} {g : Nat} {r : Rule}
theorem RsIs.ext (h : RsIs w wx P g r) (e : Ext wx w2) : RsIs w w2 P g r := ⟨ext_heap e h.b, ext_heap e h.p, ext_heap e h.r, h.lt, h.x.trans e⟩
theorem RsIs.setNx (h : RsIs w wx P g r) (n : Int) : RsIs w (wx.setCell ⟨g, 4, none⟩ (.int .i64 n)) P g { r with nx := n } := by
  have hl := h.lt
  have hk : ∀ k, k ≠ g → (wx.setCell ⟨g, 4, none⟩ (.int .i64 n)).heap[k]? = wx.heap[k]? := fun k hk => Below.heap_setCell wx ⟨g, 4, none⟩ _ k hk
  exact ⟨(hk _ (by omega)).trans h.b, (hk _ (by omega)).trans h.p, heap_set_self h.r 4 _, h.lt, h.x.setCell (p := ⟨g, 4, none⟩) (by show w.heap.size ≤ g; omega) _⟩
theorem rsIs_mk {a0 a1 a2 : Int} (h : RrIs w wx P a0 a1 a2) (e : Ext wx w2) (hg : w2.heap[wx.heap.size]? = some (.cells (ruleV r).toArray 54 (0, 0))) : RsIs w w2 P wx.heap.size r :=
  ⟨ext_heap e h.b, ext_heap e h.p, hg, h.lt, h.x.trans e⟩
end
theorem rule_five (S : ByteArray) (w : World) (hl : S.size ≤ 4000) (ht : TabT w) (p0 p1 p2 p3 p4 : ByteArray) (hp : Pcs S [p0, p1, p2, p3, p4]) : Calls Tryz.prog 41 #[.string S] w (RuleRet w S) := by
  have HF : Hid (Tape.rdRule (numsT S) = Tape.rdFive (numsT p0) (numsT p1) (numsT p2) (numsT p3) (numsT p4)) := Lib.hid (by unfold Tape.rdRule; rw [← hp.nums]; rfl)
  have HSP : Hid (∀ W : World, Ext w W → Calls Tryz.prog 54 #[.string S, .string ⟨#[32]⟩] W fun e w' => e = .returned (.slice (some ⟨W.heap.size, 0, none⟩) 5 5) ∧ w' = W.alloc (.cells #[.string p0, .string p1, .string p2, .string p3, .string p4] 9)) := Lib.hid (fun W x => hp.call w W ht x)
  have l0 : p0.size ≤ 4000 := Nat.le_trans (hp.le (by simp)) hl
  have l1 : p1.size ≤ 4000 := Nat.le_trans (hp.le (by simp)) hl
  have l2 : p2.size ≤ 4000 := Nat.le_trans (hp.le (by simp)) hl
  have l3 : p3.size ≤ 4000 := Nat.le_trans (hp.le (by simp)) hl
  have l4 : p4.size ≤ 4000 := Nat.le_trans (hp.le (by simp)) hl
  have HT := Lib.hid ht
  have HN0 := Lib.hid (fun (W : World) (x : Ext w W) => readNumber_c p0 W (by omega) (ht.ext x))
  have HN1 := Lib.hid (fun (W : World) (x : Ext w W) => readNumber_c p1 W (by omega) (ht.ext x))
  have HN2 := Lib.hid (fun (W : World) (x : Ext w W) => readNumber_c p2 W (by omega) (ht.ext x))
  have HN4 := Lib.hid (fun (W : World) (x : Ext w W) => readNumber_c p4 W (by omega) (ht.ext x))
  clear hp ht hl
  go_enter Tryz.func41, Tryz.ntmps41
  go_upto_region 4 with (go_at_call 54; refine (HSP.out _ ((Ext.refl w).alloc _)).mono ?_; rintro e w' ⟨rfl, rfl⟩)
  go_cut [2, 4, 5] (fun s2 s4 s5 wx => s2 = .pointer (some ⟨w.heap.size, 0, none⟩) ∧ s4 = .slice (some ⟨w.heap.size + 1, 0, none⟩) 5 5 ∧ s5 = .pointer (some ⟨w.heap.size + 2, 0, none⟩) ∧ RrIs w wx [p0, p1, p2, p3, p4] 0 0 0)
  case first =>
    go_wp2_with fail
    go_meet
    refine ⟨rfl, by simp, by simp, ?_, ?_, ?_, (((Ext.refl w).alloc _).alloc _).alloc _⟩
    · rw [Below.heap_alloc _ _ _ (by simp; omega), Below.heap_alloc _ _ _ (by simp)]; exact heap_alloc_new w _
    · rw [Below.heap_alloc _ _ _ (by simp)]; have := heap_alloc_new (w.alloc (.cells #[.int .i64 0, .int .i64 0, .int .i64 0, .int .i64 0, .int .i64 0] 54)) (.cells #[.string p0, .string p1, .string p2, .string p3, .string p4] 9); simpa using this
    · have := heap_alloc_new ((w.alloc (.cells #[.int .i64 0, .int .i64 0, .int .i64 0, .int .i64 0, .int .i64 0] 54)).alloc (.cells #[.string p0, .string p1, .string p2, .string p3, .string p4] 9)) (.cells #[.int .i64 0, .int .i64 0, .int .i64 0] 87)
      simpa using this
  obtain ⟨rfl, rfl, rfl, hr0⟩ := hcut
  have HR0 := Lib.hid hr0
  clear hr0
  go_wp2
  go_loopw [16] (fun t16 wx => ∃ k : Nat, ∃ a0 a1 a2, k ≤ 3 ∧ t16 = .int .i64 k ∧ RrIs w wx [p0, p1, p2, p3, p4] a0 a1 a2 ∧ NumsTo p0 p1 p2 k a0 a1 a2) (fun t16 _ => 3 - (intOf t16).toNat)
  case atStart => exact ⟨0, 0, 0, 0, by omega, rfl, HR0.out, fun q => by omega, fun q => by omega, fun q => by omega⟩
  case round =>
    obtain ⟨k, a0, a1, a2, hk, rfl, hr, hd⟩ := hrel
    have HR := Lib.hid hr
    have HD := Lib.hid hd
    clear hr hd
    by_cases hlt : k < 3
    · have hk3 : k = 0 ∨ k = 1 ∨ k = 2 := by omega
      rcases hk3 with rfl | rfl | rfl
      · have y : wr.cell? ⟨w.heap.size + 1, 0, none⟩ = some (.string p0) := blk_cell HR.out.p 0
        go_wp2_with fail
        refine (HN0.out _ HR.out.x).mono ?_
        rintro e w2 ⟨hx2, h⟩
        have HR2 := Lib.hid (HR.out.ext hx2)
        have f : w2.frozen? ⟨w.heap.size + 2, 0, none⟩ = false := blk_frozen HR2.out.a 0
        have hlt2 : w.heap.size + 2 < w2.heap.size := HR2.out.lt
        have yc : w2.cell? ⟨w.heap.size + 2, 0, none⟩ = some (.int .i64 a0) := blk_cell HR2.out.a 0
        clear hx2
        rcases h with ⟨n, hn, rfl⟩ | ⟨x, hn, rfl⟩
        · have HN := Lib.hid hn
          clear hn
          go_wp2_with fail
          go_roundw
          case rel => exact ⟨1, _, _, _, by omega, rfl, HR2.out.set 0 n n a1 a2 rfl, ⟨fun _ => ⟨n, HN.out, rfl⟩, fun q => by omega, fun q => by omega⟩⟩
          case measure => simp [intOf]
        · have HNO : Hid (Tape.rdRule (numsT S) = none) := Lib.hid (by rw [HF.out]; exact five_no (.inl hn))
          have HR3 := Lib.hid (HR2.out.set 0 x x a1 a2 rfl)
          clear hn
          go_wp2_with (refine wpList_store_row rfl 54 _ _ rfl w.heap.size (ruleV zR).toArray rfl rfl 54 _ HR3.out.b sizeR rfl (ruleV_one _) ?_)
          refine bodyPost_ret (results_ct Tryz.results41 _ _ w.heap.size 54 (ruleV zR).toArray (0, 0) _ rfl (setRow_heap _ _ _ _ _ _ HR3.out.b) Tryz.underlying54 rfl sizeR) rfl (rule_no HNO.out (HR3.out.x.setRow (Nat.le_refl _) _))
      · have y : wr.cell? ⟨w.heap.size + 1, 1, none⟩ = some (.string p1) := blk_cell HR.out.p 1
        go_wp2_with fail
        refine (HN1.out _ HR.out.x).mono ?_
        rintro e w2 ⟨hx2, h⟩
        have HR2 := Lib.hid (HR.out.ext hx2)
        have f : w2.frozen? ⟨w.heap.size + 2, 1, none⟩ = false := blk_frozen HR2.out.a 1
        have hlt2 : w.heap.size + 2 < w2.heap.size := HR2.out.lt
        have yc : w2.cell? ⟨w.heap.size + 2, 1, none⟩ = some (.int .i64 a1) := blk_cell HR2.out.a 1
        clear hx2
        rcases h with ⟨n, hn, rfl⟩ | ⟨x, hn, rfl⟩
        · have HN := Lib.hid hn
          clear hn
          go_wp2_with fail
          go_roundw
          case rel => exact ⟨2, _, _, _, by omega, rfl, HR2.out.set 1 n a0 n a2 rfl, ⟨fun _ => HD.out.c0 (by omega), fun _ => ⟨n, HN.out, rfl⟩, fun q => by omega⟩⟩
          case measure => simp [intOf]
        · have HNO : Hid (Tape.rdRule (numsT S) = none) := Lib.hid (by rw [HF.out]; exact five_no (.inr (.inl hn)))
          have HR3 := Lib.hid (HR2.out.set 1 x a0 x a2 rfl)
          clear hn
          go_wp2_with (refine wpList_store_row rfl 54 _ _ rfl w.heap.size (ruleV zR).toArray rfl rfl 54 _ HR3.out.b sizeR rfl (ruleV_one _) ?_)
          refine bodyPost_ret (results_ct Tryz.results41 _ _ w.heap.size 54 (ruleV zR).toArray (0, 0) _ rfl (setRow_heap _ _ _ _ _ _ HR3.out.b) Tryz.underlying54 rfl sizeR) rfl (rule_no HNO.out (HR3.out.x.setRow (Nat.le_refl _) _))
      · have y : wr.cell? ⟨w.heap.size + 1, 2, none⟩ = some (.string p2) := blk_cell HR.out.p 2
        go_wp2_with fail
        refine (HN2.out _ HR.out.x).mono ?_
        rintro e w2 ⟨hx2, h⟩
        have HR2 := Lib.hid (HR.out.ext hx2)
        have f : w2.frozen? ⟨w.heap.size + 2, 2, none⟩ = false := blk_frozen HR2.out.a 2
        have hlt2 : w.heap.size + 2 < w2.heap.size := HR2.out.lt
        have yc : w2.cell? ⟨w.heap.size + 2, 2, none⟩ = some (.int .i64 a2) := blk_cell HR2.out.a 2
        clear hx2
        rcases h with ⟨n, hn, rfl⟩ | ⟨x, hn, rfl⟩
        · have HN := Lib.hid hn
          clear hn
          go_wp2_with fail
          go_roundw
          case rel => exact ⟨3, _, _, _, by omega, rfl, HR2.out.set 2 n a0 a1 n rfl, ⟨fun _ => HD.out.c0 (by omega), fun _ => HD.out.c1 (by omega), fun _ => ⟨n, HN.out, rfl⟩⟩⟩
          case measure => simp [intOf]
        · have HNO : Hid (Tape.rdRule (numsT S) = none) := Lib.hid (by rw [HF.out]; exact five_no (.inr (.inr (.inl hn))))
          have HR3 := Lib.hid (HR2.out.set 2 x a0 a1 x rfl)
          clear hn
          go_wp2_with (refine wpList_store_row rfl 54 _ _ rfl w.heap.size (ruleV zR).toArray rfl rfl 54 _ HR3.out.b sizeR rfl (ruleV_one _) ?_)
          refine bodyPost_ret (results_ct Tryz.results41 _ _ w.heap.size 54 (ruleV zR).toArray (0, 0) _ rfl (setRow_heap _ _ _ _ _ _ HR3.out.b) Tryz.underlying54 rfl sizeR) rfl (rule_no HNO.out (HR3.out.x.setRow (Nat.le_refl _) _))
    · have hk3 : k = 3 := by omega
      subst hk3
      obtain ⟨n0, h0, rfl⟩ := HD.out.c0 (by omega)
      obtain ⟨n1, h1, rfl⟩ := HD.out.c1 (by omega)
      obtain ⟨n2, h2, rfl⟩ := HD.out.c2 (by omega)
      have HQ0 := Lib.hid h0
      have HQ1 := Lib.hid h1
      have HQ2 := Lib.hid h2
      obtain ⟨m, hm⟩ := HT.out.m
      obtain ⟨ix, hix⟩ : ∃ ix, ix = Lib.index [76, 83, 82] p3.data.toList := ⟨_, rfl⟩
      have HIX : Hid (∀ W : World, Ext wr W → Calls Tryz.prog 56 #[.string ⟨#[76, 83, 82]⟩, .string p3] W fun e w' => e = .returned (.int .i64 ix) ∧ w' = W) := Lib.hid (fun W x => by rw [hix]; exact Tryz.strings_Index ⟨#[76, 83, 82]⟩ p3 m W (by decide) ((HR.out.x.trans x).cell hm))
      have hi0 : -1 ≤ ix := by rw [hix]; exact Lib.index_ge _ _
      have hi1 : ix ≤ 3 := by rw [hix]; exact index_hi _ _
      have HXE := Lib.hid hix
      have hw : IntKind.i64.wrap (ix - 1) = ix - 1 := IntWalk.i64_in _ (by omega)
      have y0 : wr.cell? ⟨w.heap.size + 2, 0, none⟩ = some (.int .i64 n0) := blk_cell HR.out.a 0
      have y1 : wr.cell? ⟨w.heap.size + 2, 1, none⟩ = some (.int .i64 n1) := blk_cell HR.out.a 1
      have y2 : wr.cell? ⟨w.heap.size + 2, 2, none⟩ = some (.int .i64 n2) := blk_cell HR.out.a 2
      have y3 : wr.cell? ⟨w.heap.size + 1, 3, none⟩ = some (.string p3) := blk_cell HR.out.p 3
      have hltr := HR.out.lt
      clear h0 h1 h2 hm hix HD
      go_upto_region 13 with (fail)
      go_cut [8] (fun s8 wx => ∃ g, s8 = .pointer (some ⟨g, 0, none⟩) ∧ RsIs w wx [p0, p1, p2, p3, p4] g ⟨n0, n1, n2, ix - 1, -1⟩)
      case first =>
        refine wp_region_held_drew (S := (fun w' => w'.cell? ⟨w.heap.size + 2, 0, none⟩ = some (.int .i64 n0) ∧ w'.cell? ⟨w.heap.size + 2, 1, none⟩ = some (.int .i64 n1) ∧ w'.cell? ⟨w.heap.size + 2, 2, none⟩ = some (.int .i64 n2) ∧ w'.cell? ⟨w.heap.size + 1, 3, none⟩ = some (.string p3))) (by kernel_rfl) ?_ (fun hHeld => ?_)
        · exact ⟨Ext.cell (by first | exact Ext.refl _ | exact (Ext.refl _).alloc _ | exact (Ext.refl _).drew | exact ((Ext.refl _).alloc _).drew | exact ((Ext.refl _).drew).alloc _) y0, Ext.cell (by first | exact Ext.refl _ | exact (Ext.refl _).alloc _ | exact (Ext.refl _).drew | exact ((Ext.refl _).alloc _).drew | exact ((Ext.refl _).drew).alloc _) y1, Ext.cell (by first | exact Ext.refl _ | exact (Ext.refl _).alloc _ | exact (Ext.refl _).drew | exact ((Ext.refl _).alloc _).drew | exact ((Ext.refl _).drew).alloc _) y2, Ext.cell (by first | exact Ext.refl _ | exact (Ext.refl _).alloc _ | exact (Ext.refl _).drew | exact ((Ext.refl _).alloc _).drew | exact ((Ext.refl _).drew).alloc _) y3⟩
        refine wpAnyH_take (i := 0) (oi := { dst := some 33, op := _, type := _, pos := _, after := _, guard := _ }) (v := ?v1301) rfl (by kernel_rfl) (by kernel_rfl) (by kernel_rfl) (fun _ _ _ h => h) (Or.inl ⟨by rfl, ?hy1301⟩) (by assumption) ?rest1301
        case hy1301 => (intro w hSw; (try dsimp only at hSw); go_simp; (try with_reducible rfl))
        try simp only [Act.put, List.setIfInBounds_toArray, List.set_cons_zero, List.set_cons_succ]
        refine wpAnyH_take (i := 1) (oi := { dst := some 34, op := _, type := _, pos := _, after := _, guard := _ }) (v := ?v1302) rfl (by kernel_rfl) (by kernel_rfl) (by kernel_rfl) (fun _ _ _ h => h) (Or.inl ⟨by rfl, ?hy1302⟩) (by assumption) ?rest1302
        case hy1302 => (intro w hSw; (try dsimp only at hSw); go_simp; (try with_reducible rfl))
        try simp only [Act.put, List.setIfInBounds_toArray, List.set_cons_zero, List.set_cons_succ]
        refine wpAnyH_take (i := 2) (oi := { dst := some 35, op := _, type := _, pos := _, after := _, guard := _ }) (v := ?v1303) rfl (by kernel_rfl) (by kernel_rfl) (by kernel_rfl) (fun _ _ _ h => h) (Or.inl ⟨by rfl, ?hy1303⟩) (by assumption) ?rest1303
        case hy1303 => (intro w hSw; (try dsimp only at hSw); go_simp; (try with_reducible rfl))
        try simp only [Act.put, List.setIfInBounds_toArray, List.set_cons_zero, List.set_cons_succ]
        refine wpAnyH_take (i := 3) (oi := { dst := some 36, op := _, type := _, pos := _, after := _, guard := _ }) (v := ?v1304) rfl (by kernel_rfl) (by kernel_rfl) (by kernel_rfl) (fun _ _ _ h => h) (Or.inl ⟨by rfl, ?hy1304⟩) (by assumption) ?rest1304
        case hy1304 => (intro w hSw; (try dsimp only at hSw); go_simp; (try with_reducible rfl))
        try simp only [Act.put, List.setIfInBounds_toArray, List.set_cons_zero, List.set_cons_succ]
        refine wpAnyH_take (i := 4) (oi := { dst := some 37, op := _, type := _, pos := _, after := _, guard := _ }) (v := ?v1305) rfl (by kernel_rfl) (by kernel_rfl) (by kernel_rfl) (fun _ _ _ h => h) (Or.inl ⟨by rfl, ?hy1305⟩) (by assumption) ?rest1305
        case hy1305 => (intro w hSw; (try dsimp only at hSw); go_simp; (try with_reducible rfl))
        try simp only [Act.put, List.setIfInBounds_toArray, List.set_cons_zero, List.set_cons_succ]
        refine wpAnyH_take (i := 5) (oi := { dst := some 38, op := _, type := _, pos := _, after := _, guard := _ }) (v := ?v1306) rfl (by kernel_rfl) (by kernel_rfl) (by kernel_rfl) (fun _ _ _ h => h) (Or.inl ⟨by rfl, ?hy1306⟩) (by assumption) ?rest1306
        case hy1306 => (intro w hSw; (try dsimp only at hSw); go_simp; (try with_reducible rfl))
        try simp only [Act.put, List.setIfInBounds_toArray, List.set_cons_zero, List.set_cons_succ]
        refine wpAnyH_take (i := 6) (oi := { dst := some 39, op := _, type := _, pos := _, after := _, guard := _ }) (v := ?v1307) rfl (by kernel_rfl) (by kernel_rfl) (by kernel_rfl) (fun _ _ _ h => h) (Or.inl ⟨by rfl, ?hy1307⟩) (by assumption) ?rest1307
        case hy1307 => (intro w hSw; (try dsimp only at hSw); go_simp; (try with_reducible rfl))
        try simp only [Act.put, List.setIfInBounds_toArray, List.set_cons_zero, List.set_cons_succ]
        refine wpAnyH_take (i := 7) (oi := { dst := some 40, op := _, type := _, pos := _, after := _, guard := _ }) (v := ?v1308) rfl (by kernel_rfl) (by kernel_rfl) (by kernel_rfl) (fun _ _ _ h => h) (Or.inl ⟨by rfl, ?hy1308⟩) (by assumption) ?rest1308
        case hy1308 => (intro w hSw; (try dsimp only at hSw); go_simp; (try with_reducible rfl))
        try simp only [Act.put, List.setIfInBounds_toArray, List.set_cons_zero, List.set_cons_succ]
        refine wpAnyH_take (i := 8) (oi := { dst := some 41, op := _, type := _, pos := _, after := _, guard := _ }) (v := ?v1309) rfl (by kernel_rfl) (by kernel_rfl) (by kernel_rfl) (fun _ _ _ h => h) (Or.inl ⟨by rfl, ?hy1309⟩) (by assumption) ?rest1309
        case hy1309 => (intro w hSw; (try dsimp only at hSw); go_simp; (try with_reducible rfl))
        try simp only [Act.put, List.setIfInBounds_toArray, List.set_cons_zero, List.set_cons_succ]
        refine wpAnyH_ready (rs := [9, 12]) (by kernel_rfl) (by simp) ?_
        refine (AllReadyH.cons (o := { dst := some 42, op := _, type := _, pos := _, after := _, guard := _ }) rfl (fun K hK => ?_) (AllReadyH.cons (o := { dst := some 8, op := _, type := _, pos := _, after := _, guard := _ }) rfl (fun K hK => ?_) AllReadyH.nil))
        · go_simp
          (go_at_call 56; refine (HIX.out _ (by first | exact Ext.refl _ | exact (Ext.refl _).alloc _ | exact (Ext.refl _).drew | exact ((Ext.refl _).alloc _).drew | exact ((Ext.refl _).drew).alloc _)).mono ?_; rintro e w' ⟨rfl, rfl⟩)
          go_wp2_with fail
          refine hK.out _ _ ?_ (fun hHeld => ?_)
          · exact ⟨Ext.cell (by first | exact Ext.refl _ | exact (Ext.refl _).alloc _ | exact (Ext.refl _).drew | exact ((Ext.refl _).alloc _).drew | exact ((Ext.refl _).drew).alloc _) hHeld.1, Ext.cell (by first | exact Ext.refl _ | exact (Ext.refl _).alloc _ | exact (Ext.refl _).drew | exact ((Ext.refl _).alloc _).drew | exact ((Ext.refl _).drew).alloc _) hHeld.2.1, Ext.cell (by first | exact Ext.refl _ | exact (Ext.refl _).alloc _ | exact (Ext.refl _).drew | exact ((Ext.refl _).alloc _).drew | exact ((Ext.refl _).drew).alloc _) hHeld.2.2.1, Ext.cell (by first | exact Ext.refl _ | exact (Ext.refl _).alloc _ | exact (Ext.refl _).drew | exact ((Ext.refl _).alloc _).drew | exact ((Ext.refl _).drew).alloc _) hHeld.2.2.2⟩
          clear hK K
          try simp only [Act.put, List.setIfInBounds_toArray, List.set_cons_zero, List.set_cons_succ]
          refine wpAnyH_take (i := 10) (oi := { dst := some 43, op := _, type := _, pos := _, after := _, guard := _ }) (v := ?v1310) rfl (by kernel_rfl) (by kernel_rfl) (by kernel_rfl) (fun _ _ _ h => h) (Or.inl ⟨by rfl, ?hy1310⟩) (by assumption) ?rest1310
          case hy1310 => (intro w hSw; (try dsimp only at hSw); go_simp; (try with_reducible rfl))
          try simp only [Act.put, List.setIfInBounds_toArray, List.set_cons_zero, List.set_cons_succ]
          refine wpAnyH_take (i := 11) (oi := { dst := some 44, op := _, type := _, pos := _, after := _, guard := _ }) (v := ?v1311) rfl (by kernel_rfl) (by kernel_rfl) (by kernel_rfl) (fun _ _ _ h => h) (Or.inl ⟨by rfl, ?hy1311⟩) (by assumption) ?rest1311
          case hy1311 => (intro w hSw; (try dsimp only at hSw); go_simp; (try with_reducible rfl))
          try simp only [Act.put, List.setIfInBounds_toArray, List.set_cons_zero, List.set_cons_succ]
          refine wpAnyH_ready (rs := [12]) (by kernel_rfl) (by simp) ?_
          refine (AllReadyH.cons (o := { dst := some 8, op := _, type := _, pos := _, after := _, guard := _ }) rfl (fun K hK => ?_) AllReadyH.nil)
          · go_simp
            refine hK.out _ _ ?_ (fun hHeld => ?_)
            · exact ⟨Ext.cell (by first | exact Ext.refl _ | exact (Ext.refl _).alloc _ | exact (Ext.refl _).drew | exact ((Ext.refl _).alloc _).drew | exact ((Ext.refl _).drew).alloc _) hHeld.1, Ext.cell (by first | exact Ext.refl _ | exact (Ext.refl _).alloc _ | exact (Ext.refl _).drew | exact ((Ext.refl _).alloc _).drew | exact ((Ext.refl _).drew).alloc _) hHeld.2.1, Ext.cell (by first | exact Ext.refl _ | exact (Ext.refl _).alloc _ | exact (Ext.refl _).drew | exact ((Ext.refl _).alloc _).drew | exact ((Ext.refl _).drew).alloc _) hHeld.2.2.1, Ext.cell (by first | exact Ext.refl _ | exact (Ext.refl _).alloc _ | exact (Ext.refl _).drew | exact ((Ext.refl _).alloc _).drew | exact ((Ext.refl _).drew).alloc _) hHeld.2.2.2⟩
            clear hK K
            try simp only [Act.put, List.setIfInBounds_toArray, List.set_cons_zero, List.set_cons_succ]
            refine wpAnyH_ready (rs := [13]) (by kernel_rfl) (by simp) ?_
            refine (AllReadyH.cons (o := { dst := none, op := _, type := _, pos := _, after := _, guard := _ }) rfl (fun K hK => ?_) AllReadyH.nil)
            · refine step_store_row rfl 54 _ _ rfl wr.heap.size (ruleV ⟨n0, n1, n2, ix - 1, -1⟩).toArray (by first | (simp [Act.eval]; done) | (simp [Act.eval, Act.put]; done) | simp [Act.eval, Act.put, hw, ruleV]) (by simp [Act.eval, ruleV]) 54 #[.int .i64 0, .int .i64 0, .int .i64 0, .int .i64 0, .int .i64 0] (heap_alloc_new wr _) sizeR rfl (ruleV_one _) ?_
              refine hK.out _ _ ?_ (fun hHeld => ?_)
              · exact ⟨keep_row hHeld.1 (by omega), keep_row hHeld.2.1 (by omega), keep_row hHeld.2.2.1 (by omega), keep_row hHeld.2.2.2 (by omega)⟩
              clear hK K
              try simp only [Act.put]
              refine wpAnyH_done (by kernel_rfl) ?_ _
              go_wp2_with fail
              go_meet
              exact ⟨_, rfl, rsIs_mk HR.out (by first | exact ((Ext.refl _).alloc _).setRow (Nat.le_refl _) _ | exact (((Ext.refl _).drew).alloc _).setRow (Nat.le_refl _) _ | exact ((((Ext.refl _).drew).alloc _).drew).setRow (Nat.le_refl _) _) (by first | exact setRow_heap _ _ _ _ _ _ (heap_alloc_new wr _) | exact setRow_heap _ _ _ _ _ _ (heap_alloc_new wr.drew _))⟩
        · go_simp
          refine hK.out _ _ ?_ (fun hHeld => ?_)
          · exact ⟨Ext.cell (by first | exact Ext.refl _ | exact (Ext.refl _).alloc _ | exact (Ext.refl _).drew | exact ((Ext.refl _).alloc _).drew | exact ((Ext.refl _).drew).alloc _) hHeld.1, Ext.cell (by first | exact Ext.refl _ | exact (Ext.refl _).alloc _ | exact (Ext.refl _).drew | exact ((Ext.refl _).alloc _).drew | exact ((Ext.refl _).drew).alloc _) hHeld.2.1, Ext.cell (by first | exact Ext.refl _ | exact (Ext.refl _).alloc _ | exact (Ext.refl _).drew | exact ((Ext.refl _).alloc _).drew | exact ((Ext.refl _).drew).alloc _) hHeld.2.2.1, Ext.cell (by first | exact Ext.refl _ | exact (Ext.refl _).alloc _ | exact (Ext.refl _).drew | exact ((Ext.refl _).alloc _).drew | exact ((Ext.refl _).drew).alloc _) hHeld.2.2.2⟩
          clear hK K
          try simp only [Act.put, List.setIfInBounds_toArray, List.set_cons_zero, List.set_cons_succ]
          refine wpAnyH_ready (rs := [9]) (by kernel_rfl) (by simp) ?_
          refine (AllReadyH.cons (o := { dst := some 42, op := _, type := _, pos := _, after := _, guard := _ }) rfl (fun K hK => ?_) AllReadyH.nil)
          · go_simp
            (go_at_call 56; refine (HIX.out _ (by first | exact Ext.refl _ | exact (Ext.refl _).alloc _ | exact (Ext.refl _).drew | exact ((Ext.refl _).alloc _).drew | exact ((Ext.refl _).drew).alloc _)).mono ?_; rintro e w' ⟨rfl, rfl⟩)
            go_wp2_with fail
            refine hK.out _ _ ?_ (fun hHeld => ?_)
            · exact ⟨Ext.cell (by first | exact Ext.refl _ | exact (Ext.refl _).alloc _ | exact (Ext.refl _).drew | exact ((Ext.refl _).alloc _).drew | exact ((Ext.refl _).drew).alloc _) hHeld.1, Ext.cell (by first | exact Ext.refl _ | exact (Ext.refl _).alloc _ | exact (Ext.refl _).drew | exact ((Ext.refl _).alloc _).drew | exact ((Ext.refl _).drew).alloc _) hHeld.2.1, Ext.cell (by first | exact Ext.refl _ | exact (Ext.refl _).alloc _ | exact (Ext.refl _).drew | exact ((Ext.refl _).alloc _).drew | exact ((Ext.refl _).drew).alloc _) hHeld.2.2.1, Ext.cell (by first | exact Ext.refl _ | exact (Ext.refl _).alloc _ | exact (Ext.refl _).drew | exact ((Ext.refl _).alloc _).drew | exact ((Ext.refl _).drew).alloc _) hHeld.2.2.2⟩
            clear hK K
            try simp only [Act.put, List.setIfInBounds_toArray, List.set_cons_zero, List.set_cons_succ]
            refine wpAnyH_take (i := 10) (oi := { dst := some 43, op := _, type := _, pos := _, after := _, guard := _ }) (v := ?v1312) rfl (by kernel_rfl) (by kernel_rfl) (by kernel_rfl) (fun _ _ _ h => h) (Or.inl ⟨by rfl, ?hy1312⟩) (by assumption) ?rest1312
            case hy1312 => (intro w hSw; (try dsimp only at hSw); go_simp; (try with_reducible rfl))
            try simp only [Act.put, List.setIfInBounds_toArray, List.set_cons_zero, List.set_cons_succ]
            refine wpAnyH_take (i := 11) (oi := { dst := some 44, op := _, type := _, pos := _, after := _, guard := _ }) (v := ?v1313) rfl (by kernel_rfl) (by kernel_rfl) (by kernel_rfl) (fun _ _ _ h => h) (Or.inl ⟨by rfl, ?hy1313⟩) (by assumption) ?rest1313
            case hy1313 => (intro w hSw; (try dsimp only at hSw); go_simp; (try with_reducible rfl))
            try simp only [Act.put, List.setIfInBounds_toArray, List.set_cons_zero, List.set_cons_succ]
            refine wpAnyH_ready (rs := [13]) (by kernel_rfl) (by simp) ?_
            refine (AllReadyH.cons (o := { dst := none, op := _, type := _, pos := _, after := _, guard := _ }) rfl (fun K hK => ?_) AllReadyH.nil)
            · refine step_store_row rfl 54 _ _ rfl wr.heap.size (ruleV ⟨n0, n1, n2, ix - 1, -1⟩).toArray (by first | (simp [Act.eval]; done) | (simp [Act.eval, Act.put]; done) | simp [Act.eval, Act.put, hw, ruleV]) (by simp [Act.eval, ruleV]) 54 #[.int .i64 0, .int .i64 0, .int .i64 0, .int .i64 0, .int .i64 0] (heap_alloc_new wr _) sizeR rfl (ruleV_one _) ?_
              refine hK.out _ _ ?_ (fun hHeld => ?_)
              · exact ⟨keep_row hHeld.1 (by omega), keep_row hHeld.2.1 (by omega), keep_row hHeld.2.2.1 (by omega), keep_row hHeld.2.2.2 (by omega)⟩
              clear hK K
              try simp only [Act.put]
              refine wpAnyH_done (by kernel_rfl) ?_ _
              go_wp2_with fail
              go_meet
              exact ⟨_, rfl, rsIs_mk HR.out (by first | exact ((Ext.refl _).alloc _).setRow (Nat.le_refl _) _ | exact (((Ext.refl _).drew).alloc _).setRow (Nat.le_refl _) _ | exact ((((Ext.refl _).drew).alloc _).drew).setRow (Nat.le_refl _) _) (by first | exact setRow_heap _ _ _ _ _ _ (heap_alloc_new wr _) | exact setRow_heap _ _ _ _ _ _ (heap_alloc_new wr.drew _))⟩
      obtain ⟨g8, rfl, hrs⟩ := hcut
      obtain ⟨wa, rfl⟩ : ∃ wa : World, wa = wc := ⟨_, rfl⟩
      have HRS := Lib.hid hrs
      have x3 : wa.cell? ⟨w.heap.size + 1, 3, none⟩ = some (.string p3) := blk_cell hrs.p 3
      have x4 : wa.cell? ⟨w.heap.size + 1, 4, none⟩ = some (.string p4) := blk_cell hrs.p 4
      have xm : wa.cell? ⟨g8, 3, none⟩ = some (.int .i64 (ix - 1)) := blk_cell hrs.r 3
      have hlg := hrs.lt
      have hgl3 : g8 < wa.heap.size := (Array.getElem?_eq_some_iff.1 hrs.r).1
      clear hrs y0 y1 y2 y3
      by_cases h3 : p3.size = 1
      rotate_left
      · have HNO : Hid (Tape.rdRule (numsT S) = none) := Lib.hid (by rw [HF.out]; exact five_no (.inr (.inr (.inr (.inl (mv_long h3))))))
        have hn : ((p3.size : Int) != 1) = true := by simp; omega
        clear h3
        go_wp2_with (refine wpList_store_row rfl 54 _ _ rfl w.heap.size (ruleV zR).toArray rfl rfl 54 _ HRS.out.b sizeR rfl (ruleV_one _) ?_)
        refine bodyPost_ret (results_ct Tryz.results41 _ _ w.heap.size 54 (ruleV zR).toArray (0, 0) _ rfl (setRow_heap _ _ _ _ _ _ HRS.out.b) Tryz.underlying54 rfl sizeR) rfl (rule_no HNO.out (HRS.out.x.setRow (Nat.le_refl _) _))
      have hn : ((p3.size : Int) != 1) = false := by rw [h3]; rfl
      rcases mv_index h3 with ⟨hm1, hm2⟩ | ⟨m, hm1, hm2, hm3, hm4⟩
      · have HNO : Hid (Tape.rdRule (numsT S) = none) := Lib.hid (by rw [HF.out]; exact five_no (.inr (.inr (.inr (.inl hm1)))))
        have hie : ix = -1 := by rw [HXE.out]; exact hm2
        have hlt3 : ix - 1 < -1 := by omega
        clear h3 hm1 hm2
        go_wp2_with (refine wpList_store_row rfl 54 _ _ rfl w.heap.size (ruleV zR).toArray rfl rfl 54 _ HRS.out.b sizeR rfl (ruleV_one _) ?_)
        refine bodyPost_ret (results_ct Tryz.results41 _ _ w.heap.size 54 (ruleV zR).toArray (0, 0) _ rfl (setRow_heap _ _ _ _ _ _ HRS.out.b) Tryz.underlying54 rfl sizeR) rfl (rule_no HNO.out (HRS.out.x.setRow (Nat.le_refl _) _))
      have hie : ix - 1 = m := by rw [HXE.out, hm2]; omega
      have hge : ¬ (ix - 1 < -1) := by omega
      have HM := Lib.hid hm1
      have HIE := Lib.hid hie
      clear h3 hm1 hm2 hie
      by_cases h4 : p4 = ⟨#[72]⟩
      · have HYES : Hid (Tape.rdRule (numsT S) = some ⟨n0, n1, n2, ix - 1, -1⟩) := Lib.hid (by rw [HF.out, HIE.out]; unfold Tape.rdFive; rw [HQ0.out, HQ1.out, HQ2.out, HM.out, nx_h h4])
        subst h4
        go_wp2_with (first | refine wpList_load_row rfl 54 _ rfl g8 rfl 54 (ruleV ⟨n0, n1, n2, ix - 1, -1⟩).toArray (0, 0) _ HRS.out.r Tryz.underlying54 rfl sizeR ?_ | refine wpList_store_row rfl 54 _ _ rfl w.heap.size (ruleV ⟨n0, n1, n2, ix - 1, -1⟩).toArray rfl rfl 54 _ HRS.out.b sizeR rfl (ruleV_one _) ?_)
        refine bodyPost_ret (results_ct Tryz.results41 _ _ w.heap.size 54 (ruleV ⟨n0, n1, n2, ix - 1, -1⟩).toArray (0, 0) _ rfl (setRow_heap _ _ _ _ _ _ HRS.out.b) Tryz.underlying54 rfl sizeR) rfl (rule_yes HYES.out (HRS.out.x.setRow (Nat.le_refl _) _))
      · have hne := str_ne h4
        have hne1 : (p4.toList != (⟨#[72]⟩ : ByteArray).toList) = true := by unfold bne; rw [hne]; rfl
        have hq72 : (⟨#[72]⟩ : ByteArray).toList = [72] := by rw [ByteArray.toList_eq]
        have hne2 : (p4.toList == [72]) = false := by rw [← hq72]; exact hne
        have hne3 : (p4.toList != [72]) = true := by rw [← hq72]; exact hne1
        clear hq72
        have HNX := Lib.hid (nx_num h4)
        clear h4
        go_upto_region 18 with (fail)
        go_wp2_with fail
        refine (HN4.out _ HRS.out.x).mono ?_
        rintro e w2 ⟨hx2, h⟩
        have HR2 := Lib.hid (HRS.out.ext hx2)
        have f : w2.frozen? ⟨g8, 4, none⟩ = false := blk_frozen HR2.out.r 4
        have yc : w2.cell? ⟨g8, 4, none⟩ = some (.int .i64 (-1)) := blk_cell HR2.out.r 4
        have hlt2 : g8 < w2.heap.size := (Array.getElem?_eq_some_iff.1 HR2.out.r).1
        clear hx2
        rcases h with ⟨n, hn4, rfl⟩ | ⟨x, hn4, rfl⟩
        · have HYES : Hid (Tape.rdRule (numsT S) = some ⟨n0, n1, n2, ix - 1, n⟩) := Lib.hid (by rw [HF.out, HIE.out]; unfold Tape.rdFive; rw [HQ0.out, HQ1.out, HQ2.out, HM.out, HNX.out, hn4]; rfl)
          have HR3 := Lib.hid (HR2.out.setNx n)
          clear hn4
          go_wp2_with (first | refine wpList_load_row rfl 54 _ rfl g8 rfl 54 (ruleV ⟨n0, n1, n2, ix - 1, n⟩).toArray (0, 0) _ HR3.out.r Tryz.underlying54 rfl sizeR ?_ | refine wpList_store_row rfl 54 _ _ rfl w.heap.size (ruleV ⟨n0, n1, n2, ix - 1, n⟩).toArray rfl rfl 54 _ HR3.out.b sizeR rfl (ruleV_one _) ?_)
          refine bodyPost_ret (results_ct Tryz.results41 _ _ w.heap.size 54 (ruleV ⟨n0, n1, n2, ix - 1, n⟩).toArray (0, 0) _ rfl (setRow_heap _ _ _ _ _ _ HR3.out.b) Tryz.underlying54 rfl sizeR) rfl (rule_yes HYES.out (HR3.out.x.setRow (Nat.le_refl _) _))
        · have HNO : Hid (Tape.rdRule (numsT S) = none) := Lib.hid (by rw [HF.out]; exact five_no (.inr (.inr (.inr (.inr (by rw [HNX.out, hn4]; rfl))))))
          have HR3 := Lib.hid (HR2.out.setNx x)
          clear hn4
          go_wp2_with (first | refine wpList_load_row rfl 54 _ rfl g8 rfl 54 (ruleV ⟨n0, n1, n2, ix - 1, x⟩).toArray (0, 0) _ HR3.out.r Tryz.underlying54 rfl sizeR ?_ | refine wpList_store_row rfl 54 _ _ rfl w.heap.size (ruleV ⟨n0, n1, n2, ix - 1, x⟩).toArray rfl rfl 54 _ HR3.out.b sizeR rfl (ruleV_one _) ?_)
          refine bodyPost_ret (results_ct Tryz.results41 _ _ w.heap.size 54 (ruleV ⟨n0, n1, n2, ix - 1, x⟩).toArray (0, 0) _ rfl (setRow_heap _ _ _ _ _ _ HR3.out.b) Tryz.underlying54 rfl sizeR) rfl (rule_no HNO.out (HR3.out.x.setRow (Nat.le_refl _) _))
theorem readRule_c (S : ByteArray) (w : World) (hl : S.size ≤ 4000) (ht : TabT w) : Calls Tryz.prog 41 #[.string S] w (RuleRet w S) := by
  obtain ⟨P, hp⟩ := pcs_mk S hl
  by_cases h5 : P.length = 5
  · match P, h5, hp with
    | [p0, p1, p2, p3, p4], _, hp => exact rule_five S w hl ht p0 p1 p2 p3 p4 hp
  · exact rule_short S w hl ht P hp h5
end Go.Proofs.YtbaahbpianingaaGreatDoor
