import Derived.Test.YtbaahbpianingaaDoorDecked
import Derived.Test.YtbaahbpianingaaDoorAddD
import Derived.Deep.RegionHeld3
import Derived.Deep.RegionLaw
namespace Go.Proofs.YtbaahbpianingaaDoor
open Go Go.Proofs Go.RowKit
open Acc (Dk red five)
set_option maxHeartbeats 4000000
set_option maxRecDepth 100000
theorem Decimal_c (n : Nat) : ∀ (w : World), n < 4294967296 → Calls Tryd.prog 77 #[.int .u32 (n : Int)] w (SRetS w (strOfNums (Acc.dec n))) := by
  induction n using Nat.strongRecOn with
  | _ n ih =>
    intro w hn
    by_cases h : n < 10
    · have hcv : (convert 23 9 (.slice (some ⟨w.heap.size, 0, none⟩) 1 1)).run Tryd.prog (w.alloc (.cells #[.int .u8 (48 + (n : Int))] 5)) = .ok (.string (strOfNums [48 + (n : Int)])) (w.alloc (.cells #[.int .u8 (48 + (n : Int))] 5)) :=
        Sl.conv (l := [48 + (n : Int)]) (sl_block (heap_alloc_new w _) rfl) 23 5 9 Tryd.underlying23 Tryd.underlying5 Tryd.underlying9 1
      rw [Acc.dec_small h]
      clear ih
      go_enter Tryd.func77, Tryd.ntmps77
      go_wp2
      go_ret
      exact ⟨rfl, (Ext.refl w).alloc _⟩
    · have i1 := Lib.hid (ih (n / 10) (by omega))
      have i2 := Lib.hid (ih (n % 10) (by omega))
      have e1 : Acc.dec (n % 10) = [48 + ((n % 10 : Nat) : Int)] := Acc.dec_small (by omega)
      rw [Acc.dec_big h, ← e1, ← strOfNums_append]
      obtain ⟨d, hd⟩ : ∃ d, n / 10 = d := ⟨_, rfl⟩
      obtain ⟨r, hr⟩ : ∃ r, n % 10 = r := ⟨_, rfl⟩
      have q1 : ((n : Int) / 10) = (d : Int) := by omega
      have q2 : ((n : Int) % 10) = (r : Int) := by omega
      have t1 : (n : Int).tdiv 10 = (d : Int) := by rw [Int.tdiv_eq_ediv_of_nonneg (by omega)]; exact q1
      have t2 : (n : Int).tmod 10 = (r : Int) := by rw [Int.tmod_eq_emod_of_nonneg (by omega)]; exact q2
      have hd0 : d < 4294967296 := by omega
      have hr0 : r < 4294967296 := by omega
      have h10 : ¬ ((n : Int) < 10) := by omega
      rw [hd] at i1
      rw [hr] at i2
      rw [hd, hr]
      have z1 : (strOfNums (Acc.dec d)).size ≤ 10 := by rw [strOfNums_size]; exact Acc.dec_len (by omega) (by omega)
      have z2 : (strOfNums (Acc.dec r)).size ≤ 10 := by rw [strOfNums_size]; exact Acc.dec_len (by omega) (by omega)
      clear ih hd hr q1 q2 e1
      generalize strOfNums (Acc.dec d) = S at *
      generalize strOfNums (Acc.dec r) = R at *
      go_enter Tryd.func77, Tryd.ntmps77
      go_wp2_with fail
      refine (i1.out w hd0).mono ?_
      rintro e w1 ⟨rfl, hx1⟩
      have HX1 := Lib.hid hx1
      clear hx1
      go_wp2_with fail
      refine (i2.out w1 hr0).mono ?_
      rintro e w2 ⟨rfl, hx2⟩
      have HX2 := Lib.hid (HX1.out.trans hx2)
      clear hx2
      go_wp2_with fail
      go_ret
      exact ⟨rfl, HX2.out⟩
theorem padded_c (n k : Nat) (w : World) (hn : n < 100000) (hk : k ≤ 10) : Calls Tryd.prog 50 #[.int .i64 (n : Int), .int .i64 (k : Int)] w (SRetS w (strOfNums (Acc.pad k (Acc.dec n)))) := by
  have hd := Acc.dec_len (n := n) (k := 5) (by omega) (by omega)
  have HI := Lib.hid (Decimal_c n w (by omega))
  unfold Acc.pad
  generalize Acc.dec n = d at *
  obtain ⟨K, hK⟩ : ∃ K : Int, (k : Int) = K := ⟨_, rfl⟩
  go_enter Tryd.func50, Tryd.ntmps50
  go_wp2_with (go_at_call 77; refine HI.out.mono ?_; rintro e w1 ⟨rfl, hx⟩)
  have HX := Lib.hid hx
  clear hx
  go_loop [5] (fun s => ∃ j : Nat, ∃ b, s = .string b ∧ Hid (strOfNums (List.replicate j 48 ++ d) = b) ∧ (j = 0 ∨ j + d.length ≤ k) ∧ b.size = j + d.length) (fun s => k - strLen s)
  case atStart => exact ⟨0, _, rfl, Lib.hid rfl, .inl rfl, by rw [strOfNums_size]; simp⟩
  case round =>
    obtain ⟨j, b, rfl, hb, hj, hs⟩ := hrel
    have HS := Lib.hid hs
    have hs1 : b.size ≤ 20 := by omega
    by_cases hlt : b.size < k
    · have HZ := Lib.hid (zero_more b _ hb.out)
      clear hs
      go_wp2
      go_round
      case rel =>
        have hr : strOfNums (List.replicate (j + 1) 48 ++ d) = (⟨#[48]⟩ : ByteArray) ++ b := by rw [HZ.out, List.replicate_succ, List.cons_append]
        have hs3 := HS.out
        refine ⟨j + 1, _, rfl, Lib.hid hr, .inr ?_, ?_⟩
        · omega
        · rw [HZ.out, strOfNums_size]; simp; omega
      case measure =>
        have hs3 : ((⟨#[48]⟩ : ByteArray) ++ b).size = b.size + 1 := by rw [HZ.out, strOfNums_size]; have := HS.out; simp; omega
        show k - ((⟨#[48]⟩ : ByteArray) ++ b).size < k - b.size
        omega
    · have HR : Hid (b = strOfNums (List.replicate (k - d.length) 48 ++ d)) := Lib.hid (by rw [← hb.out]; congr 3; omega)
      clear hs
      go_wp2
      go_ret
      exact ⟨ret_str HR.out, HX.out⟩
theorem Signed_c (n : Int) (w : World) (h : five n = true) : Calls Tryd.prog 72 #[.int .i64 n] w (SRetS w (strOfNums (Acc.signed n))) := by
  have h5 := Acc.five_iff.1 h
  unfold Acc.signed
  by_cases hn : n < 0
  · obtain ⟨m, rfl⟩ : ∃ m : Nat, n = -(m : Int) := ⟨n.natAbs, by omega⟩
    rw [if_pos hn]
    have e : (-(-(m : Int))).toNat = m := by omega
    rw [e]
    have HI := Lib.hid (Decimal_c m w (by omega))
    have z1 : (strOfNums (Acc.dec m)).size ≤ 10 := by rw [strOfNums_size]; exact Acc.dec_len (by omega) (by omega)
    have HF : Hid ((⟨#[45]⟩ : ByteArray) ++ strOfNums (Acc.dec m) = strOfNums (45 :: Acc.dec m)) := Lib.hid (by
      have e1 : (⟨#[45]⟩ : ByteArray) = strOfNums [45] := rfl
      rw [e1, strOfNums_append]; rfl)
    clear e
    generalize strOfNums (Acc.dec m) = S at *
    go_enter Tryd.func72, Tryd.ntmps72
    go_wp2_with (go_at_call 77; refine HI.out.mono ?_; rintro e w1 ⟨rfl, hx⟩)
    go_ret
    exact ⟨ret_str HF.out, hx⟩
  · obtain ⟨m, rfl⟩ : ∃ m : Nat, n = (m : Int) := ⟨n.natAbs, by omega⟩
    rw [if_neg hn, Int.toNat_natCast]
    have HI := Lib.hid (Decimal_c m w (by omega))
    go_enter Tryd.func72, Tryd.ntmps72
    go_wp2_with (go_at_call 77; refine HI.out.mono ?_; rintro e w1 ⟨rfl, hx⟩)
    go_ret
    exact ⟨rfl, hx⟩
end Go.Proofs.YtbaahbpianingaaDoor
namespace Go.Proofs.YtbaahbpianingaaDoor
open Go Go.Proofs Go.RowKit
open Acc (Dk red five)
theorem faultW_code {l : List Int} {c i : Int} (h : faultW l = (c, i)) : c = 0 → i = 0 ∧ l.length ≤ 100 ∧ ∀ v ∈ l, five v = true := by
  unfold faultW at h
  split at h
  · injection h with h1 h2; intro h0; omega
  split at h
  · injection h with h1 h2; intro h0; omega
  · rename_i h1 h2
    injection h with h3 h4
    exact fun _ => ⟨h4.symm, by omega, badI_fine (by omega)⟩
end Go.Proofs.YtbaahbpianingaaDoor
namespace Go.Proofs.YtbaahbpianingaaDoor
open Go Go.Proofs Go.RowKit
open Acc (Dk red five)
set_option maxHeartbeats 1600000
set_option maxRecDepth 100000
theorem div_in {n d : Int} (h : -1000000000000 ≤ n ∧ n ≤ 1000000000000) : -1000000000000 ≤ n.tdiv d ∧ n.tdiv d ≤ 1000000000000 := by
  have h1 : (n.tdiv d).natAbs ≤ n.natAbs := by rw [Int.natAbs_tdiv]; exact Nat.div_le_self _ _
  omega
theorem wrap_in {n : Int} (h : -1000000000000 ≤ n ∧ n ≤ 1000000000000) : IntKind.i64.wrap n = n := IntWalk.i64_in _ (by omega)
theorem reduced_nat (n : Int) (w : World) (h : 0 ≤ n) : Calls Tryd.prog 73 #[.int .i64 n] w fun e w' => e = .returned (.int .i64 (red n)) ∧ w = w' := by
  have hw := red_wrap n
  have HE : Hid (n % 100000 = red n) := Lib.hid (by unfold red; rw [Int.tmod_eq_emod_of_nonneg h])
  go_enter Tryd.func73, Tryd.ntmps73
  go_wp2
  go_ret
  exact ⟨congrArg (fun z => Ending.returned (Value.int .i64 z)) HE.out, rfl⟩
theorem reduced_c (n : Int) (w : World) (h : -1000000000000 ≤ n ∧ n ≤ 1000000000000) : Calls Tryd.prog 73 #[.int .i64 n] w fun e w' => e = .returned (.int .i64 (red n)) ∧ w = w' := by
  by_cases h0 : n < 0
  · obtain ⟨m, rfl⟩ : ∃ m : Int, n = -m := ⟨-n, by omega⟩
    have hw1 : IntKind.i64.wrap m = m := wrap_in (by omega)
    have hr := Acc.five_iff.1 (Acc.red_five m)
    rw [Acc.red_neg]
    have HI := Lib.hid (fun W => reduced_nat m W (by omega))
    clear h
    generalize red m = r at *
    go_enter Tryd.func73, Tryd.ntmps73
    go_wp2_with fail
    refine (HI.out _).mono ?_
    rintro e w' ⟨rfl, rfl⟩
    go_wp2_with fail
    go_ret
    exact ⟨rfl, rfl⟩
  · exact reduced_nat n w (by omega)
theorem divided_nat (n d : Int) (w : World) (h : 0 ≤ n) (hb : n ≤ 1000000000000) (d1 : 1 ≤ d) : Calls Tryd.prog 74 #[.int .i64 n, .int .i64 d] w fun e w' => e = .returned (.int .i64 (n.tdiv d)) ∧ w = w' := by
  have hw : IntKind.i64.wrap (n.tdiv d) = n.tdiv d := wrap_in (div_in (by omega))
  have hne : (d == 0) = false := by simp; omega
  have hne2 : ¬ d = 0 := by omega
  clear hb
  go_enter Tryd.func74, Tryd.ntmps74
  go_wp2
  go_ret
  exact ⟨by rfl, rfl⟩
theorem divided_pos (n d : Int) (w : World) (h : 0 ≤ n) (hb : n ≤ 1000000000000) (hd : -1000000000000 ≤ d ∧ d ≤ 1000000000000) (d1 : d ≠ 0) : Calls Tryd.prog 74 #[.int .i64 n, .int .i64 d] w fun e w' => e = .returned (.int .i64 (n.tdiv d)) ∧ w = w' := by
  by_cases h0 : d < 0
  · obtain ⟨m, rfl⟩ : ∃ m : Int, d = -m := ⟨-d, by omega⟩
    have hw1 : IntKind.i64.wrap m = m := wrap_in (by omega)
    have hr := div_in (n := n) (d := m) (by omega)
    have hw2 : IntKind.i64.wrap (-(n.tdiv m)) = -(n.tdiv m) := wrap_in (by omega)
    rw [Int.tdiv_neg]
    have HI := Lib.hid (fun W => divided_nat n m W h hb (by omega))
    clear d1 hb hd hr
    generalize n.tdiv m = r at *
    go_enter Tryd.func74, Tryd.ntmps74
    go_wp2_with fail
    refine (HI.out _).mono ?_
    rintro e w' ⟨rfl, rfl⟩
    go_wp2_with fail
    go_ret
    exact ⟨rfl, rfl⟩
  · exact divided_nat n d w h hb (by omega)
theorem divided_c (n d : Int) (w : World) (h : -1000000000000 ≤ n ∧ n ≤ 1000000000000) (hd : -1000000000000 ≤ d ∧ d ≤ 1000000000000) (d1 : d ≠ 0) : Calls Tryd.prog 74 #[.int .i64 n, .int .i64 d] w fun e w' => e = .returned (.int .i64 (n.tdiv d)) ∧ w = w' := by
  by_cases h0 : n < 0
  · obtain ⟨m, rfl⟩ : ∃ m : Int, n = -m := ⟨-n, by omega⟩
    have hw1 : IntKind.i64.wrap m = m := wrap_in (by omega)
    have hr := div_in (n := m) (d := d) (by omega)
    have hw2 : IntKind.i64.wrap (-(m.tdiv d)) = -(m.tdiv d) := wrap_in (by omega)
    rw [Int.neg_tdiv]
    have HI := Lib.hid (fun W => divided_pos m d W (by omega) (by omega) hd d1)
    clear d1 hd hr h
    generalize m.tdiv d = r at *
    go_enter Tryd.func74, Tryd.ntmps74
    go_wp2_with fail
    refine (HI.out _).mono ?_
    rintro e w' ⟨rfl, rfl⟩
    go_wp2_with fail
    go_ret
    exact ⟨rfl, rfl⟩
  · exact divided_pos n d w (by omega) (by omega) hd d1
/-- These cells read as s in every world that keeps what is not bad. -/
def StAv (bad : Nat → Prop) (w : World) (cs : Array Value) (s : Dk) : Prop := ∀ F : World, (∀ g, ¬ bad g → g < w.heap.size → F.heap[g]? = w.heap[g]?) → DkIs F cs s
theorem StAv.st {bad : Nat → Prop} {w : World} {cs : Array Value} {s : Dk} (h : StAv bad w cs s) : DkIs w cs s := h w fun _ _ _ => rfl
/-- What the specification's step returns. -/
def SpRet (bad : Nat → Prop) (w : World) (s : Dk) (e : Ending) (w' : World) : Prop := ∃ cs', e = .returned (.agg cs') ∧ StAv bad w' cs' s ∧ Ext w w'
def bad3 (bad : Nat → Prop) (B g : Nat) : Prop := bad g ∨ g = B ∨ g = B + 1
/-- In the course of a step: the state's variable and the result's. -/
structure Sp (bad : Nat → Prop) (w wx : World) (s : Dk) (cs : Array Value) : Prop where
  b1 : wx.heap[w.heap.size]? = some (.cells cs 25 (0, 0))
  b2 : wx.heap[w.heap.size + 1]? = some (.cells zeroDk 25 (0, 0))
  st : StAv (bad3 bad w.heap.size) wx cs s
  x : Ext w wx
section
variable {bad : Nat → Prop} {w wx w2 : World} {s s' : Dk} {cs : Array Value}
theorem Sp.lt (h : Sp bad w wx s cs) : w.heap.size + 1 < wx.heap.size := (Array.getElem?_eq_some_iff.1 h.b2).1
theorem Sp.is (h : Sp bad w wx s cs) : DkIs wx cs s := h.st.st
theorem Sp.cell (h : Sp bad w wx s cs) (i : Nat) : wx.cell? ⟨w.heap.size, i, none⟩ = cs[i]? := blk_cell h.b1 i
theorem Sp.frozen (h : Sp bad w wx s cs) (i : Nat) : wx.frozen? ⟨w.heap.size, i, none⟩ = false := blk_frozen h.b1 i
theorem Sp.mk0 (h : StAv bad w cs s) : Sp bad w ((w.alloc (.cells cs 25)).alloc (.cells zeroDk 25)) s cs := by
  have hx : Ext w ((w.alloc (.cells cs 25)).alloc (.cells zeroDk 25)) := ((Ext.refl w).alloc _).alloc _
  refine ⟨blk1 w cs zeroDk, blk2 w cs zeroDk, fun F hF => h F fun g hg hl => ?_, hx⟩
  rw [hF g (fun q => by rcases q with q | q | q; exact hg q; omega; omega) (Nat.lt_of_lt_of_le hl hx.size)]
  exact hx.block g hl
theorem Sp.set (h : Sp bad w wx s cs) {i : Nat} {u : Value} (hf : ∀ F, DkIs F cs s → DkIs F (cs.setIfInBounds i u) s') : Sp bad w (wx.setCell ⟨w.heap.size, i, none⟩ u) s' (cs.setIfInBounds i u) := by
  refine ⟨heap_set_self h.b1 i u, ?_, fun F hF => hf F (h.st F fun g hg hl => ?_), h.x.setCell (p := ⟨w.heap.size, i, none⟩) (Nat.le_refl _) u⟩
  · rw [Below.heap_setCell _ _ _ _ (by show w.heap.size + 1 ≠ w.heap.size; omega)]; exact h.b2
  · rw [hF g hg (by rw [World.size_setCell]; exact hl)]
    exact Below.heap_setCell _ _ _ _ (fun e => hg (.inr (.inl e)))
theorem Sp.ext (h : Sp bad w wx s cs) (x : Ext wx w2) : Sp bad w w2 s cs :=
  ⟨ext_heap x h.b1, ext_heap x h.b2, fun F hF => h.st F fun g hg hl => (hF g hg (Nat.lt_of_lt_of_le hl x.size)).trans (x.block g hl), h.x.trans x⟩
theorem Sp.fin (h : Sp bad w wx s cs) : SpRet bad w s (.returned (.agg cs)) (wx.setRow (w.heap.size + 1) cs) := by
  refine ⟨cs, rfl, fun F hF => h.st F fun g hg hl => ?_, h.x.setRow (by omega) _⟩
  rw [hF g (fun q => hg (.inl q)) (by simpa [World.setRow] using hl)]
  exact setRow_other _ _ _ _ (fun e => hg (.inr (.inr e)))
/-- A cell of a state is set. -/
theorem DkIs.set (h : DkIs w cs s) (i : Nat) (u : Value) (s' : Dk)
    (ew : ∀ k, k < 100 → (if i = k then some u else some (.int .i64 (s.words[k]?.getD 0))) = some (.int .i64 (s'.words[k]?.getD 0)))
    (e0 : (if i = 100 then some u else some (.int .i64 s.at_)) = some (.int .i64 s'.at_)) (e1 : (if i = 101 then some u else some (.int .i64 s.a)) = some (.int .i64 s'.a))
    (e2 : (if i = 102 then some u else some (.int .i64 s.q)) = some (.int .i64 s'.q)) (e3 : (if i = 103 then some u else some (.int .i64 s.x)) = some (.int .i64 s'.x))
    (e4 : (if i = 104 then some u else some (.bool s.ov)) = some (.bool s'.ov)) (e5 : SlAt w .u8 (if i = 105 then some u else cs[105]?) s'.input) (e6 : SlAt w .u8 (if i = 106 then some u else cs[106]?) s'.output)
    (e7 : (if i = 107 then some u else some (.int .i64 s.stop)) = some (.int .i64 s'.stop)) (hwf : DkWf s') : DkIs w (cs.setIfInBounds i u) s' := by
  have hsz := h.size
  refine ⟨by simpa using hsz, ?_, ?_, ?_, ?_, ?_, ?_, ?_, ?_, ?_, hwf⟩
  · intro k hk'; rw [getD_set, ← ew k hk', h.words k hk']; split
    · rw [if_pos (by omega)]
    · rfl
  · rw [getD_set, ← e0, h.at_]; split
    · rw [if_pos (by omega)]
    · rfl
  · rw [getD_set, ← e1, h.a]; split
    · rw [if_pos (by omega)]
    · rfl
  · rw [getD_set, ← e2, h.q]; split
    · rw [if_pos (by omega)]
    · rfl
  · rw [getD_set, ← e3, h.x]; split
    · rw [if_pos (by omega)]
    · rfl
  · rw [getD_set, ← e4, h.ov]; split
    · rw [if_pos (by omega)]
    · rfl
  · rw [getD_set]
    by_cases q : i = 105
    · rw [if_pos q] at e5 ⊢; rw [if_pos (by omega)]; exact e5
    · rw [if_neg q] at e5 ⊢; exact e5
  · rw [getD_set]
    by_cases q : i = 106
    · rw [if_pos q] at e6 ⊢; rw [if_pos (by omega)]; exact e6
    · rw [if_neg q] at e6 ⊢; exact e6
  · rw [getD_set, ← e7, h.stop]; split
    · rw [if_pos (by omega)]
    · rfl
theorem at_set (h : DkIs w cs s) {n : Int} (hn : I64 n) : DkIs w (cs.setIfInBounds 100 (.int .i64 n)) { s with at_ := n } :=
  h.set 100 _ _ (fun k hk => if_neg (by omega)) rfl rfl rfl rfl rfl h.input h.output rfl { h.wf with at_ := hn }
theorem a_set (h : DkIs w cs s) {n : Int} (hn : I64 n) : DkIs w (cs.setIfInBounds 101 (.int .i64 n)) { s with a := n } :=
  h.set 101 _ _ (fun k hk => if_neg (by omega)) rfl rfl rfl rfl rfl h.input h.output rfl { h.wf with a := hn }
theorem q_set (h : DkIs w cs s) {n : Int} (hn : I64 n) : DkIs w (cs.setIfInBounds 102 (.int .i64 n)) { s with q := n } :=
  h.set 102 _ _ (fun k hk => if_neg (by omega)) rfl rfl rfl rfl rfl h.input h.output rfl { h.wf with q := hn }
theorem x_set (h : DkIs w cs s) {n : Int} (hn : I64 n) : DkIs w (cs.setIfInBounds 103 (.int .i64 n)) { s with x := n } :=
  h.set 103 _ _ (fun k hk => if_neg (by omega)) rfl rfl rfl rfl rfl h.input h.output rfl { h.wf with x := hn }
theorem ov_set (h : DkIs w cs s) (b : Bool) : DkIs w (cs.setIfInBounds 104 (.bool b)) { s with ov := b } :=
  h.set 104 _ _ (fun k hk => if_neg (by omega)) rfl rfl rfl rfl rfl h.input h.output rfl { h.wf with }
theorem stop_set (h : DkIs w cs s) {n : Int} (hn : I64 n) : DkIs w (cs.setIfInBounds 107 (.int .i64 n)) { s with stop := n } :=
  h.set 107 _ _ (fun k hk => if_neg (by omega)) rfl rfl rfl rfl rfl h.input h.output rfl { h.wf with stop := hn }
theorem word_set (h : DkIs w cs s) {i : Nat} (hi : i < 100) {n : Int} (hn : I64 n) : DkIs w (cs.setIfInBounds i (.int .i64 n)) { s with words := s.words.set i n } := by
  have hl := h.wf.len
  refine h.set i _ _ (fun k hk => ?_) (if_neg (by omega)) (if_neg (by omega)) (if_neg (by omega)) (if_neg (by omega)) (if_neg (by omega)) (by rw [if_neg (by omega)]; exact h.input) (by rw [if_neg (by omega)]; exact h.output) (if_neg (by omega)) ?_
  · show _ = some (Value.int .i64 ((s.words.set i n)[k]?.getD 0))
    rw [List.getElem?_set]
    split
    · rw [if_pos (by omega)]; rfl
    · rfl
  · refine { h.wf with len := by simpa using hl, words := fun x hx => ?_ }
    rcases List.mem_or_eq_of_mem_set hx with q | q
    · exact h.wf.words x q
    · rw [q]; exact hn
theorem in_set (h : DkIs w cs s) {v : Value} {r : List Int} (hr : SlAt w .u8 (some v) r) (hb : Byt r) : DkIs w (cs.setIfInBounds 105 v) { s with input := r } :=
  h.set 105 _ _ (fun k hk => if_neg (by omega)) rfl rfl rfl rfl rfl hr h.output rfl { h.wf with input := hb }
theorem out_set (h : DkIs w cs s) {v : Value} {r : List Int} (hr : SlAt w .u8 (some v) r) (hb : Byt r) : DkIs w (cs.setIfInBounds 106 v) { s with output := r } :=
  h.set 106 _ _ (fun k hk => if_neg (by omega)) rfl rfl rfl rfl rfl h.input hr rfl { h.wf with output := hb }
/-- The output is another slice, away from what is bad. -/
theorem Sp.setOut (h : Sp bad w wx s cs) {v : Value} {r : List Int} (hr : ∀ F : World, (∀ g, ¬ bad3 bad w.heap.size g → g < wx.heap.size → F.heap[g]? = wx.heap[g]?) → SlAt F .u8 (some v) r) (hb : Byt r) :
    Sp bad w (wx.setCell ⟨w.heap.size, 106, none⟩ v) { s with output := r } (cs.setIfInBounds 106 v) := by
  refine ⟨heap_set_self h.b1 106 v, ?_, fun F hF => ?_, h.x.setCell (p := ⟨w.heap.size, 106, none⟩) (Nat.le_refl _) v⟩
  · rw [Below.heap_setCell _ _ _ _ (by show w.heap.size + 1 ≠ w.heap.size; omega)]; exact h.b2
  · have hF2 : ∀ g, ¬ bad3 bad w.heap.size g → g < wx.heap.size → F.heap[g]? = wx.heap[g]? := fun g hg hl => by
      rw [hF g hg (by rw [World.size_setCell]; exact hl)]
      exact Below.heap_setCell _ _ _ _ (fun e => hg (.inr (.inl e)))
    exact out_set (h.st F hF2) (hr F hF2) hb
end
theorem results_one {P : Program} {fn : Func} {p : Tmp} {tp : TypeId} (h : fn.results = #[.cell p tp]) (tmps : Array Value) (w : World) (g : Nat) (t : TypeId) (cs : Array Value) (fr : Nat × Nat) (d : TypeDesc)
    (hp : tmps.getD p undef = .pointer (some ⟨g, 0, none⟩)) (hg : w.heap[g]? = some (.cells cs t fr)) (hu : P.underlying tp = some d) (hd : (match d with | .struct _ | .array _ _ => true | _ => false) = true) (hi : (P.info? tp).map (·.size) = some cs.size) :
    (results fn tmps).run P w = .ok (.agg cs) w := results_cell_row h tmps w g t cs fr d hp hg hu hd hi
theorem wp_world {P : Program} {c : Code} {Q : Exit → Act → World → Prop} {a : Act} {W : World} (R : World → Prop) (h : R W) (k : ∀ wx, R wx → Code.wp P c Q a wx) : Code.wp P c Q a W := k W h
/-- A row of the call's own reads in every world that agrees. -/
theorem own_agr {bad : Nat → Prop} {w wx F : World} {e : TypeId} {k : IntKind} {u : Value} {r : List Int} (hbad : ∀ g, bad g → g < w.heap.size) (ho : wx.ownsRow (w.heap.size + 2) e 1 u r.length (r.map (Value.int k)))
    (hF : ∀ g, ¬ bad3 bad w.heap.size g → g < wx.heap.size → F.heap[g]? = wx.heap[g]?) : SlAt F k (some u) r :=
  own_at ho fun g hg => hF g (fun q => by have := own_lt ho hg; rcases q with q | q | q; have := hbad g q; omega; omega; omega) (own_lt ho hg).2
theorem grown_ext {w w' : World} (h : w.grownBy w' none) : Ext w w' := ⟨h.os, h.tape, h.output, h.size, fun g hl => h.block g hl (by simp)⟩
/-- What is known ahead of a step that goes on. -/
structure Ah (s : Dk) (k : Int) (p : Nat) (W0 : Int) (a : Nat) (m : Int) : Prop where
  at_ : s.at_ = p
  p100 : p < 100
  wp : s.words[p]?.getD 0 = W0
  w0 : 0 ≤ W0
  w1 : W0 < 20000
  op : W0 / 100 % 100 = k
  k0 : 0 ≤ k
  k17 : k ≤ 17
  ad : Acc.addrF s = a
  alt : a < 100
  adlo : W0 < 10000 → W0 % 100 = a
  adhi : 10000 ≤ W0 → W0 % 100 + s.x = a
  mv : s.words[a]?.getD 0 = m
  mw : Acc.wordAt s (Acc.addrF s) = m
  m5 : five m = true
  d6 : k = 6 → m ≠ 0
  d14 : k = 14 → s.output.length + (Acc.lineF s.a).length ≤ 1000
theorem ahead {s : Dk} (h : OkSt s) (hz : Acc.stopF s = 0) : ∃ p W0 a m, Ah s (Acc.opF s) p W0 a m := by
  have ha := h.ok.at_
  have h1 : ¬ s.at_ = 100 := by intro q; unfold Acc.stopF at hz; rw [if_pos q] at hz; omega
  have h2 : ¬ (Acc.wordAt s s.at_ < 0 ∨ 20000 ≤ Acc.wordAt s s.at_ ∨ 18 ≤ Acc.opF s) := by intro q; unfold Acc.stopF at hz; rw [if_neg h1, if_pos q] at hz; omega
  have h3 : ¬ (Acc.addrF s < 0 ∨ 100 ≤ Acc.addrF s) := by intro q; unfold Acc.stopF at hz; rw [if_neg h1, if_neg h2, if_pos q] at hz; omega
  have h4 : ¬ (Acc.opF s = 6 ∧ Acc.wordAt s (Acc.addrF s) = 0) := by intro q; unfold Acc.stopF at hz; rw [if_neg h1, if_neg h2, if_neg h3, if_pos q] at hz; omega
  have h5 : ¬ (Acc.opF s = 14 ∧ 1000 < s.output.length + (Acc.lineF s.a).length) := by intro q; unfold Acc.stopF at hz; rw [if_neg h1, if_neg h2, if_neg h3, if_neg h4, if_pos q] at hz; omega
  obtain ⟨W0, hW⟩ : ∃ W0, Acc.wordAt s s.at_ = W0 := ⟨_, rfl⟩
  obtain ⟨p, hp⟩ : ∃ p : Nat, s.at_ = p := ⟨s.at_.toNat, by omega⟩
  obtain ⟨a, had⟩ : ∃ a : Nat, Acc.addrF s = a := ⟨(Acc.addrF s).toNat, by omega⟩
  have hop : Acc.opF s = W0 / 100 % 100 := by
    unfold Acc.opF
    rw [hW, Int.tdiv_eq_ediv_of_nonneg (by omega), Int.tmod_eq_emod_of_nonneg (by omega)]
  have had2 : Acc.addrF s = W0 % 100 + (if 10000 ≤ W0 then s.x else 0) := by
    unfold Acc.addrF
    rw [hW, Int.tmod_eq_emod_of_nonneg (by omega)]
  have hm5 := Acc.word_five h.ok (Acc.addrF s)
  have hm : Acc.wordAt s (Acc.addrF s) = s.words[a]?.getD 0 := by unfold Acc.wordAt; rw [had, Int.toNat_natCast]
  refine ⟨p, W0, a, _, hp, by omega, ?_, by omega, by omega, hop.symm, by rw [hop]; omega, by omega, had, by omega, fun q => ?_, fun q => ?_, hm.symm, rfl, hm5, fun q e => h4 ⟨q, e⟩, fun q => by omega⟩
  · rw [← hW]; unfold Acc.wordAt; rw [hp, Int.toNat_natCast]
  · rw [if_neg (by omega)] at had2; omega
  · rw [if_pos q] at had2; omega
theorem stepF_go {s : Dk} (hz : Acc.stopF s = 0) : Acc.stepF s = Acc.effF { s with at_ := s.at_ + 1 } (Acc.opF s) (Acc.addrF s) := by
  unfold Acc.stepF; rw [if_pos hz]
theorem stepF_stop {s : Dk} {n : Int} (hz : Acc.stopF s = n) (hn : n ≠ 0) : Acc.stepF s = { s with stop := n } := by
  unfold Acc.stepF; rw [if_neg (by rw [hz]; exact hn), hz]
theorem itR_succ : ∀ (k : Nat) (a : Int), Acc.itR (k + 1) a = red (10 * Acc.itR k a)
  | 0, _ => rfl
  | k + 1, a => by rw [Acc.itR, itR_succ k, ← Acc.itR]
theorem itD_succ : ∀ (k : Nat) (a : Int), Acc.itD (k + 1) a = (Acc.itD k a).tdiv 10
  | 0, _ => rfl
  | k + 1, a => by rw [Acc.itD, itD_succ k, ← Acc.itD]
theorem itR_five : ∀ (k : Nat) (a : Int), five a = true → five (Acc.itR k a) = true
  | 0, _, h => h
  | k + 1, a, _ => by rw [itR_succ]; exact Acc.red_five _
theorem itD_five : ∀ (k : Nat) (a : Int), five a = true → five (Acc.itD k a) = true
  | 0, _, h => h
  | k + 1, a, h => by
    rw [itD_succ]
    have := Acc.five_iff.1 (itD_five k a h)
    rw [Acc.five_iff]
    have h1 : ((Acc.itD k a).tdiv 10).natAbs ≤ (Acc.itD k a).natAbs := by rw [Int.natAbs_tdiv]; exact Nat.div_le_self _ _
    omega
theorem mul_in {a b : Int} (ha : five a = true) (hb : five b = true) : -1000000000000 ≤ a * b ∧ a * b ≤ 1000000000000 := by
  have h1 := Acc.five_iff.1 ha
  have h2 := Acc.five_iff.1 hb
  have h3 : (a * b).natAbs ≤ 99999 * 99999 := by rw [Int.natAbs_mul]; exact Nat.mul_le_mul (by omega) (by omega)
  omega
theorem rest_in {a b : Int} (ha : five a = true) : a.tmod b = a - a.tdiv b * b ∧ five (a.tdiv b) = true ∧ five (a - a.tdiv b * b) = true := by
  have h1 := Acc.five_iff.1 ha
  have e : a.tmod b = a - a.tdiv b * b := by rw [Int.tmod_def, Int.mul_comm]
  refine ⟨e, ?_, ?_⟩
  · rw [Acc.five_iff]
    have := (show (a.tdiv b).natAbs ≤ a.natAbs by rw [Int.natAbs_tdiv]; exact Nat.div_le_self _ _)
    omega
  · rw [← e, Acc.five_iff]
    have := (show (a.tmod b).natAbs ≤ a.natAbs by rw [Int.natAbs_tmod]; exact Nat.mod_le _ _)
    omega
theorem i64_in {n : Int} (h : -1000000000000 ≤ n ∧ n ≤ 1000000000000) : I64 n := ⟨by omega, by omega⟩
theorem eff0_eq (s : Dk) (a : Int) : Acc.effF s 0 a = { s with stop := 1 } := by
  unfold Acc.effF; rw [if_pos rfl]
theorem eff1_eq (s : Dk) (a : Int) : Acc.effF s 1 a = { s with a := Acc.wordAt s a } := by
  unfold Acc.effF; rw [if_neg (by decide), if_pos rfl]
theorem eff2_eq (s : Dk) (a : Int) : Acc.effF s 2 a = { s with words := s.words.set a.toNat s.a } := by
  unfold Acc.effF; rw [if_neg (by decide), if_neg (by decide), if_pos rfl]
theorem eff3_eq (s : Dk) (a : Int) : Acc.effF s 3 a = { s with a := red (s.a + Acc.wordAt s a), ov := s.ov || !five (s.a + Acc.wordAt s a) } := by
  unfold Acc.effF; rw [if_neg (by decide), if_neg (by decide), if_neg (by decide), if_pos rfl]
  unfold Acc.sumF
  rw [Acc.over_five]
theorem eff4_eq (s : Dk) (a : Int) : Acc.effF s 4 a = { s with a := red (s.a - Acc.wordAt s a), ov := s.ov || !five (s.a - Acc.wordAt s a) } := by
  unfold Acc.effF; rw [if_neg (by decide), if_neg (by decide), if_neg (by decide), if_neg (by decide), if_pos rfl]
  unfold Acc.sumF
  rw [Acc.over_five, ← Int.sub_eq_add_neg]
theorem eff5_eq (s : Dk) (a : Int) : Acc.effF s 5 a = { s with a := red (s.a * Acc.wordAt s a), q := (s.a * Acc.wordAt s a).tdiv 100000 } := by
  unfold Acc.effF; rw [if_neg (by decide), if_neg (by decide), if_neg (by decide), if_neg (by decide), if_neg (by decide), if_pos rfl]
theorem eff6_eq (s : Dk) (a : Int) : Acc.effF s 6 a = { s with a := s.a.tdiv (Acc.wordAt s a), q := s.a.tmod (Acc.wordAt s a) } := by
  unfold Acc.effF; rw [if_neg (by decide), if_neg (by decide), if_neg (by decide), if_neg (by decide), if_neg (by decide), if_neg (by decide), if_pos rfl]
theorem eff7_eq (s : Dk) (a : Int) : Acc.effF s 7 a = { s with at_ := a } := by
  unfold Acc.effF; rw [if_neg (by decide), if_neg (by decide), if_neg (by decide), if_neg (by decide), if_neg (by decide), if_neg (by decide), if_neg (by decide), if_pos rfl]
  rfl
theorem eff8_eq (s : Dk) (a : Int) : Acc.effF s 8 a = if s.a < 0 then { s with at_ := a } else s := by
  unfold Acc.effF; rw [if_neg (by decide), if_neg (by decide), if_neg (by decide), if_neg (by decide), if_neg (by decide), if_neg (by decide), if_neg (by decide), if_neg (by decide), if_pos rfl]
  unfold Acc.jumpF
  by_cases h : s.a < 0
  · rw [if_pos h, if_pos (by simpa using h)]
  · rw [if_neg h, if_neg (by simpa using h)]
theorem eff9_eq (s : Dk) (a : Int) : Acc.effF s 9 a = if s.a = 0 then { s with at_ := a } else s := by
  unfold Acc.effF; rw [if_neg (by decide), if_neg (by decide), if_neg (by decide), if_neg (by decide), if_neg (by decide), if_neg (by decide), if_neg (by decide), if_neg (by decide), if_neg (by decide), if_pos rfl]
  unfold Acc.jumpF
  by_cases h : s.a = 0
  · rw [if_pos h, if_pos (by simpa using h)]
  · rw [if_neg h, if_neg (by simpa using h)]
theorem eff10_eq (s : Dk) (a : Int) : Acc.effF s 10 a = if s.ov = true then { s with at_ := a, ov := false } else { s with ov := false } := by
  unfold Acc.effF; rw [if_neg (by decide), if_neg (by decide), if_neg (by decide), if_neg (by decide), if_neg (by decide), if_neg (by decide), if_neg (by decide), if_neg (by decide), if_neg (by decide), if_neg (by decide), if_pos rfl]
  unfold Acc.jumpF
  by_cases h : s.ov = true
  · rw [if_pos h, if_pos h]
  · rw [if_neg h, if_neg h]
theorem eff11_eq (s : Dk) (a : Int) : Acc.effF s 11 a = { s with x := Acc.wordAt s a } := by
  unfold Acc.effF; rw [if_neg (by decide), if_neg (by decide), if_neg (by decide), if_neg (by decide), if_neg (by decide), if_neg (by decide), if_neg (by decide), if_neg (by decide), if_neg (by decide), if_neg (by decide), if_neg (by decide), if_pos rfl]
theorem eff12_eq (s : Dk) (a : Int) : Acc.effF s 12 a = if red (s.x - 1) = 0 then { s with x := red (s.x - 1), ov := s.ov || !five (s.x - 1) } else { s with x := red (s.x - 1), ov := s.ov || !five (s.x - 1), at_ := a } := by
  unfold Acc.effF; rw [if_neg (by decide), if_neg (by decide), if_neg (by decide), if_neg (by decide), if_neg (by decide), if_neg (by decide), if_neg (by decide), if_neg (by decide), if_neg (by decide), if_neg (by decide), if_neg (by decide), if_neg (by decide), if_pos rfl]
  unfold Acc.sumF Acc.jumpF
  rw [Acc.over_five, ← Int.sub_eq_add_neg]
  by_cases h : red (s.x - 1) = 0
  · rw [if_pos h, if_neg (by simpa using h)]
  · rw [if_neg h, if_pos (by simpa using h)]
theorem eff13_nil {s : Dk} {a : Int} (h : s.input = []) : Acc.effF s 13 a = { s with words := s.words.set a.toNat (-1) } := by
  unfold Acc.effF; rw [if_neg (by decide), if_neg (by decide), if_neg (by decide), if_neg (by decide), if_neg (by decide), if_neg (by decide), if_neg (by decide), if_neg (by decide), if_neg (by decide), if_neg (by decide), if_neg (by decide), if_neg (by decide), if_neg (by decide), if_pos rfl]
  rw [h]
theorem eff13_cons {s : Dk} {a x : Int} {r : List Int} (h : s.input = x :: r) : Acc.effF s 13 a = { s with words := s.words.set a.toNat x, input := r } := by
  unfold Acc.effF; rw [if_neg (by decide), if_neg (by decide), if_neg (by decide), if_neg (by decide), if_neg (by decide), if_neg (by decide), if_neg (by decide), if_neg (by decide), if_neg (by decide), if_neg (by decide), if_neg (by decide), if_neg (by decide), if_neg (by decide), if_pos rfl]
  rw [h]
theorem eff14_eq (s : Dk) (a : Int) : Acc.effF s 14 a = { s with output := s.output ++ Acc.lineF s.a } := by
  unfold Acc.effF; rw [if_neg (by decide), if_neg (by decide), if_neg (by decide), if_neg (by decide), if_neg (by decide), if_neg (by decide), if_neg (by decide), if_neg (by decide), if_neg (by decide), if_neg (by decide), if_neg (by decide), if_neg (by decide), if_neg (by decide), if_neg (by decide), if_pos rfl]
theorem eff15_eq {s : Dk} (k : Nat) (h : five s.a = true) : Acc.effF s 15 (k : Int) = { s with a := Acc.itR k s.a } := by
  unfold Acc.effF; rw [if_neg (by decide), if_neg (by decide), if_neg (by decide), if_neg (by decide), if_neg (by decide), if_neg (by decide), if_neg (by decide), if_neg (by decide), if_neg (by decide), if_neg (by decide), if_neg (by decide), if_neg (by decide), if_neg (by decide), if_neg (by decide), if_neg (by decide), if_pos rfl]
  rw [Acc.itR_shift k s.a h]
theorem eff16_eq {s : Dk} (k : Nat) (h : five s.a = true) : Acc.effF s 16 (k : Int) = { s with a := Acc.itD k s.a } := by
  unfold Acc.effF; rw [if_neg (by decide), if_neg (by decide), if_neg (by decide), if_neg (by decide), if_neg (by decide), if_neg (by decide), if_neg (by decide), if_neg (by decide), if_neg (by decide), if_neg (by decide), if_neg (by decide), if_neg (by decide), if_neg (by decide), if_neg (by decide), if_neg (by decide), if_neg (by decide), if_pos rfl]
  rw [Acc.itD_shift k s.a h]
theorem eff17_eq (s : Dk) (a : Int) : Acc.effF s 17 a = { s with a := s.q, q := s.a } := by
  unfold Acc.effF; rw [if_neg (by decide), if_neg (by decide), if_neg (by decide), if_neg (by decide), if_neg (by decide), if_neg (by decide), if_neg (by decide), if_neg (by decide), if_neg (by decide), if_neg (by decide), if_neg (by decide), if_neg (by decide), if_neg (by decide), if_neg (by decide), if_neg (by decide), if_neg (by decide), if_neg (by decide)]
end Go.Proofs.YtbaahbpianingaaDoor
namespace Go.Proofs.YtbaahbpianingaaDoor
open Go Go.Proofs Go.RowKit
open Acc (Dk red five)
set_option maxHeartbeats 1600000
set_option maxRecDepth 100000
theorem slAt_tail {F : World} {b o c : Nat} {x : Int} {r : List Int} (h : SlAt F .u8 (some (.slice (some ⟨b, o, none⟩) (r.length + 1) c)) (x :: r)) :
    SlAt F .u8 (some (.slice (if c = 1 then some ⟨b, o, none⟩ else (some (⟨b, o, none⟩ : Addr)).map (·.add 1)) r.length (c - 1))) r := by
  obtain ⟨A, c', h1, h2, h3, h4, h5⟩ := h
  injection h1 with h1
  injection h1 with f1 f2 f3
  subst f1; subst f3
  simp only [List.length_cons] at h2
  refine ⟨_, c - 1, rfl, by omega, by omega, fun hn => ?_, fun i u hu => ?_⟩
  · split at hn <;> simp at hn
  · obtain ⟨ad, q1, q2⟩ := h5 (i + 1) u (by simpa using hu)
    cases q1
    have hi : i < r.length := by
      rcases Nat.lt_or_ge i r.length with hl | hl
      · exact hl
      · simp [List.getElem?_eq_none (show (r.map (Value.int .u8)).length ≤ i by simpa using hl)] at hu
    rw [if_neg (show c ≠ 1 by omega)]
    refine ⟨_, rfl, ?_⟩
    rw [add_add, Nat.add_comm 1 i]
    exact q2
theorem wpList_append_str {P : Program} {w : World} {ops : Array Oper} {rest : List Oper} {o : Oper} {a : Act} {Q : Exit → Act → World → Prop} (hgd : o.guard = none) (sl x : Operand) (t u : TypeId)
    (ho : o.op = .call { callee := .builtin .append, args := #[sl, x], argTypes := #[t, u] }) (base : Nat) (e : TypeId) (i : TypeInfo) (ht : P.underlying t = some (.slice e)) (hu : P.underlying u = some .string) (hi : P.info? e = some i) (hz : i.zero = some (.int .u8 0)) (hsize : i.size = 1) (hby : i.bytes = 1)
    (v : Value) (n : Nat) (xs : List Value) (hs : a.eval sl = v) (hown : w.ownsRow base e 1 v n xs) (s : ByteArray) (hx : a.eval x = .string s) (h63 : n + s.size ≤ maxLen) (hbytes : n + s.size ≤ 140737488355328) (hbase : base ≤ w.heap.size)
    (h : ∀ v' w', RowTo w w' base e v v' (n + s.size) (xs ++ Lib.strCells s) → wpList P ops Q rest (a.put o.dst v') w') : wpList P ops Q (o :: rest) a w := by
  refine wpList_plain hgd fun K hK => ?_
  obtain ⟨v', w', hrun, h2⟩ := run_append_str (P := P) w base t u o.type e i ht hu hi hz hsize hby v n xs hown s h63 hbytes hbase
  unfold Oper.wp execOp
  simp only [ho, resolve, invoke, builtin, Sem.run_bind, Sem.run_pure, Result.andThen_ok, List.map_toArray, List.map_cons, List.map_nil, hs, hx, hrun]
  exact hK _ _ (h v' w' h2)
theorem ext_two {w w4 w5 : World} {v4 : Value} (h1 : w.grownBy w4 none) (h4 : v4.ownBlock = none ∨ v4.ownBlock = some w.heap.size) (h5 : w4.grownBy w5 v4.ownBlock) : Ext w w5 := by
  have x := grown_ext h1
  refine ⟨h5.os.trans x.os, h5.tape.trans x.tape, h5.output.trans x.output, Nat.le_trans x.size h5.size, fun g hg => (h5.block g (Nat.lt_of_lt_of_le hg x.size) (fun e => ?_)).trans (x.block g hg)⟩
  rcases h4 with q | q
  · rw [q] at e; cases e
  · rw [q] at e; cases e; omega
theorem mod_in {n d : Int} (h : -1000000000000 ≤ n ∧ n ≤ 1000000000000) : -1000000000000 ≤ n.tmod d ∧ n.tmod d ≤ 1000000000000 := by
  have h1 : (n.tmod d).natAbs ≤ n.natAbs := by rw [Int.natAbs_tmod]; exact Nat.mod_le _ _
  omega
theorem line_str (n : Int) : strOfNums (Acc.signed n) ++ (⟨#[10]⟩ : ByteArray) = strOfNums (Acc.lineF n) := by
  have e : (⟨#[10]⟩ : ByteArray) = strOfNums [10] := rfl
  rw [e, strOfNums_append]
  rfl
/-- What is known of a word that can be read, whatever comes of it. -/
structure Ah2 (s : Dk) (k : Int) (p : Nat) (W0 : Int) (a : Nat) (m : Int) : Prop where
  at_ : s.at_ = p
  p100 : p < 100
  wp : s.words[p]?.getD 0 = W0
  w0 : 0 ≤ W0
  w1 : W0 < 20000
  op : W0 / 100 % 100 = k
  ad : Acc.addrF s = a
  alt : a < 100
  adlo : W0 < 10000 → W0 % 100 = a
  adhi : 10000 ≤ W0 → W0 % 100 + s.x = a
  mv : s.words[a]?.getD 0 = m
  mw : Acc.wordAt s (Acc.addrF s) = m
  m5 : five m = true
theorem ahead2 {s : Dk} (h : OkSt s) (h1 : ¬ s.at_ = 100) (h2 : ¬ (Acc.wordAt s s.at_ < 0 ∨ 20000 ≤ Acc.wordAt s s.at_ ∨ 18 ≤ Acc.opF s)) (h3 : ¬ (Acc.addrF s < 0 ∨ 100 ≤ Acc.addrF s)) : ∃ p W0 a m, Ah2 s (Acc.opF s) p W0 a m := by
  have ha := h.ok.at_
  obtain ⟨W0, hW⟩ : ∃ W0, Acc.wordAt s s.at_ = W0 := ⟨_, rfl⟩
  obtain ⟨p, hp⟩ : ∃ p : Nat, s.at_ = p := ⟨s.at_.toNat, by omega⟩
  obtain ⟨a, had⟩ : ∃ a : Nat, Acc.addrF s = a := ⟨(Acc.addrF s).toNat, by omega⟩
  have hop : Acc.opF s = W0 / 100 % 100 := by
    unfold Acc.opF
    rw [hW, Int.tdiv_eq_ediv_of_nonneg (by omega), Int.tmod_eq_emod_of_nonneg (by omega)]
  have had2 : Acc.addrF s = W0 % 100 + (if 10000 ≤ W0 then s.x else 0) := by
    unfold Acc.addrF
    rw [hW, Int.tmod_eq_emod_of_nonneg (by omega)]
  have hm5 := Acc.word_five h.ok (Acc.addrF s)
  have hm : Acc.wordAt s (Acc.addrF s) = s.words[a]?.getD 0 := by unfold Acc.wordAt; rw [had, Int.toNat_natCast]
  refine ⟨p, W0, a, _, hp, by omega, ?_, by omega, by omega, hop.symm, had, by omega, fun q => ?_, fun q => ?_, hm.symm, rfl, hm5⟩
  · rw [← hW]; unfold Acc.wordAt; rw [hp, Int.toNat_natCast]
  · rw [if_neg (by omega)] at had2; omega
  · rw [if_pos q] at had2; omega
/-- What is known where the address is none. -/
structure Ah3 (s : Dk) (p : Nat) (W0 : Int) : Prop where
  at_ : s.at_ = p
  p100 : p < 100
  wp : s.words[p]?.getD 0 = W0
  w5 : five W0 = true
theorem ahead3 {s : Dk} (h : OkSt s) (h1 : ¬ s.at_ = 100) : ∃ p, Ah3 s p (Acc.wordAt s s.at_) := by
  have ha := h.ok.at_
  obtain ⟨p, hp⟩ : ∃ p : Nat, s.at_ = p := ⟨s.at_.toNat, by omega⟩
  refine ⟨p, hp, by omega, ?_, Acc.word_five h.ok _⟩
  unfold Acc.wordAt; rw [hp, Int.toNat_natCast]
end Go.Proofs.YtbaahbpianingaaDoor
