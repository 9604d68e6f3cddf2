import Derived.Test.YtbaahbpianingaaGreatDoorMg2
import Derived.Test.YtbaahbpianingaaGreatDoorMg1
import Derived.Test.YtbaahbpianingaaGreatDoorProg
import Derived.Deep.RegionLaw
import Derived.RegionTactic
import Derived.Deep.RegionHeld3
import Derived.Shelf.Strconv.Itoa0
import Derived.Shelf.Strconv.Itoa1
import Derived.Shelf.LaysM
import Derived.Shelf.Strconv.Itoa2
import Derived.Shelf.Strconv.Itoa3
import Derived.Shelf.Slices.Reverse
import Derived.Ground.Names2Prog
import Derived.Shelf.Slices.Clone
import Derived.Shelf.Slices.Cells
import Derived.Lib.AppendIntMem
import Derived.Lib.AppendStr
import Derived.Lib.Split
import Derived.Lib.AtoiAllCases
import Derived.Laws.EntriesVeiled
import Derived.Deep.DeepCutAuto
import Derived.Outline
namespace Go.Proofs.YtbaahbpianingaaGreatDoor
open Go Go.RowKit
open Acc (Dk)
def I64 (n : Int) : Prop := -9223372036854775808 ≤ n ∧ n ≤ 9223372036854775807
theorem own_lt {w : World} {base : Nat} {e : TypeId} {size n : Nat} {v : Value} {xs : List Value} (h : w.ownsRow base e size v n xs) {g : Nat} (hg : v.ownBlock = some g) : base ≤ g ∧ g < w.heap.size := h.lt g hg
theorem own_keep {w w' : World} {base : Nat} {e : TypeId} {size n : Nat} {v : Value} {xs : List Value} (h : w.ownsRow base e size v n xs) (hk : ∀ g, v.ownBlock = some g → w'.heap[g]? = w.heap[g]?) : w'.ownsRow base e size v n xs := by
  refine ⟨h.1, ?_⟩
  rcases h.2 with hn | ⟨g, cap, cur, rfl, hb, hgg, rest⟩
  · exact .inl hn
  · exact .inr ⟨g, cap, cur, rfl, hb, by rw [hk g rfl]; exact hgg, rest⟩
theorem block_add (a : Addr) (n : Nat) : (a.add n).block = a.block := by unfold Addr.add; split <;> rfl
/-- A slice that reads as these cells, none of them in a bad block. -/
def SlF (w : World) (A : Option Addr) (xs : List Value) (bad : Nat → Prop) : Prop :=
  ∀ i u, xs[i]? = some u → ∃ a, A = some a ∧ w.cell? (a.add i) = some u ∧ ¬ bad a.block
theorem SlF.sl {w : World} {A : Option Addr} {xs : List Value} {bad : Nat → Prop} (h : SlF w A xs bad) : SlC w A xs := by
  intro i u hu
  obtain ⟨a, h1, h2, _⟩ := h i u hu
  exact ⟨a, h1, h2⟩
theorem SlF.keep {w w' : World} {A : Option Addr} {xs : List Value} {bad bad' : Nat → Prop} (h : SlF w A xs bad)
    (hk : ∀ g, ¬ bad g → g < w.heap.size → w'.heap[g]? = w.heap[g]?) (hb : ∀ g, g < w.heap.size → bad' g → bad g) : SlF w' A xs bad' := by
  intro i u hu
  obtain ⟨a, h1, h2, h3⟩ := h i u hu
  have hlt := World.block_lt_of_cell? w _ h2
  rw [block_add] at hlt
  refine ⟨a, h1, ?_, fun hb' => h3 (hb _ hlt hb')⟩
  rw [World.cell?_of_block (w := w) (by rw [block_add]; exact hk _ h3 hlt)]
  exact h2
/-- A cell that holds a slice of integers. -/
def SlAt (w : World) (k : IntKind) (o : Option Value) (l : List Int) : Prop :=
  ∃ A c, o = some (.slice A l.length c) ∧ l.length ≤ c ∧ c ≤ maxLen ∧ (A = none → c = 0) ∧ Sl w k A l
theorem SlAt.ext {w w' : World} {k : IntKind} {o : Option Value} {l : List Int} (h : SlAt w k o l) (e : Ext w w') : SlAt w' k o l := by
  obtain ⟨A, c, h1, h2, h3, h4, h5⟩ := h
  exact ⟨A, c, h1, h2, h3, h4, h5.ext e⟩
section
variable {w w' w1 : World} {bm : Nat} {s : Dk} {cs : Array Value} {vo : Value}
theorem own_ne {base g : Nat} {e t : TypeId} {size n : Nat} {v : Value} {xs : List Value} {cs : Array Value} {fr : Nat × Nat} (h : w.ownsRow base e size v n xs) (hg : w.heap[g]? = some (.cells cs t fr)) (hne : e ≠ t) : v.ownBlock ≠ some g := by
  rcases h.2 with ⟨rfl, _⟩ | ⟨g', cap, cur, rfl, _, hh, _⟩
  · simp [Value.ownBlock]
  · intro he
    have : g' = g := by simpa [Value.ownBlock] using he
    subst this
    rw [hh] at hg
    injection hg with hg
    injection hg with _ ht
    exact hne ht
theorem heap_set_self {t : TypeId} (h : w.heap[bm]? = some (.cells cs t (0, 0))) (i : Nat) (u : Value) : (w.setCell ⟨bm, i, none⟩ u).heap[bm]? = some (.cells (cs.setIfInBounds i u) t (0, 0)) := by
  simp [World.setCell, Array.getElem?_modify, h]
theorem getD_set {i j : Nat} {u : Value} : (cs.setIfInBounds i u)[j]? = if i = j then (if i < cs.size then some u else none) else cs[j]? := by
  rw [Array.getElem?_setIfInBounds]
/-- The output's row has been replaced by another one, in its place or new. -/
structure RowTo (w w1 : World) (bm : Nat) (e : TypeId) (v v' : Value) (n : Nat) (xs : List Value) : Prop where
  own : w1.ownsRow bm e 1 v' n xs
  grown : w.grownBy w1 v.ownBlock
  at_ : v'.ownBlock = v.ownBlock ∨ ∃ g, v'.ownBlock = some g ∧ w.heap.size ≤ g
theorem RowTo.block {e : TypeId} {v v' : Value} {n : Nat} {xs : List Value} (h : RowTo w w1 bm e v v' n xs) {g : Nat} (hg : g < w.heap.size) (hne : v.ownBlock ≠ some g) : w1.heap[g]? = w.heap[g]? :=
  h.grown.block g hg (fun e => hne e.symm)
theorem RowTo.old {e : TypeId} {v v' : Value} {n : Nat} {xs : List Value} (h : RowTo w w1 bm e v v' n xs) {g : Nat} (hg : g < w.heap.size) (hv : v'.ownBlock = some g) : v.ownBlock = some g := by
  rcases h.at_ with h1 | ⟨g', h1, h2⟩
  · rw [← h1]; exact hv
  · rw [h1] at hv; cases hv; omega
end
end Go.Proofs.YtbaahbpianingaaGreatDoor
namespace Go.Proofs.YtbaahbpianingaaGreatDoor
open Go Go.Proofs Go.RowKit
open Acc (Dk red five)
set_option maxHeartbeats 1000000
set_option maxRecDepth 100000
theorem ret_bool {a b : Bool} (h : a = b) : Ending.returned (.bool a) = .returned (.bool b) := by rw [h]
theorem ret_int {k : IntKind} {a b : Int} (h : a = b) : Ending.returned (.int k a) = .returned (.int k b) := by rw [h]
def BRet (w : World) (b : Bool) (e : Ending) (w' : World) : Prop := e = .returned (.bool b) ∧ Ext w w'
theorem At_c (c i : Int) (w : World) :
    Calls Tryz.prog 32 #[.int .i64 c, .int .i64 i] w fun e w' => e = .returned (.agg #[.int .i64 c, .int .i64 i]) ∧ w.alloc (.cells #[.int .i64 c, .int .i64 i] 27) = w' := by
  go_enter Tryz.func32, Tryz.ntmps32
  go_wp2
  exact bodyPost_ret (v := .agg #[.int .i64 c, .int .i64 i]) (by simp [results, Tryz.results32, go_sem]) rfl ⟨rfl, rfl⟩
def inB (n lo hi : Int) : Bool := decide (lo ≤ n ∧ n ≤ hi)
theorem In_c (n lo hi : Int) (w : World) :
    Calls Tryz.prog 33 #[.int .i64 n, .int .i64 lo, .int .i64 hi] w fun e w' => e = .returned (.bool (inB n lo hi)) ∧ w = w' := by
  by_cases h2 : lo ≤ n
  all_goals go_enter Tryz.func33, Tryz.ntmps33
  all_goals go_wp2
  all_goals go_ret
  all_goals refine ⟨ret_bool ?_, rfl⟩
  all_goals simp [inB]
  all_goals omega
end Go.Proofs.YtbaahbpianingaaGreatDoor
namespace Go.Proofs.YtbaahbpianingaaGreatDoor
open Go Go.Proofs Go.RowKit
open Acc (Dk red five)
set_option maxHeartbeats 1000000
set_option maxRecDepth 100000
theorem info_parts {P : Program} {t : TypeId} {z : Value} {a b : Nat} (h : (P.info? t).map (fun i => (i.zero, i.size, i.bytes)) = some (some z, a, b)) : ∃ i, P.info? t = some i ∧ i.zero = some z ∧ i.size = a ∧ i.bytes = b := by
  cases hq : P.info? t with
  | none => rw [hq] at h; cases h
  | some i =>
    rw [hq] at h
    simp only [Option.map_some, Option.some.injEq, Prod.mk.injEq] at h
    exact ⟨i, rfl, h.1, h.2.1, h.2.2⟩
theorem infoI : (Tryz.prog.info? 3).map (fun i => (i.zero, i.size, i.bytes)) = some (some (.int .i64 0), 1, 8) := by kernel_rfl
end Go.Proofs.YtbaahbpianingaaGreatDoor
namespace Go.Proofs.YtbaahbpianingaaGreatDoor
open Go Go.Proofs Go.RowKit
open Acc (Dk red five)
set_option maxHeartbeats 1000000
set_option maxRecDepth 100000
section
variable {w : World} {bm g : Nat} {s : Dk} {cs : Array Value} {vo : Value}
theorem keep_cell {b o b' o' : Nat} {u v : Value} (h : w.cell? ⟨b, o, none⟩ = some v) (hn : b ≠ b' ∨ o ≠ o') : ((w.setCell ⟨b', o', none⟩ u).drew).cell? ⟨b, o, none⟩ = some v := by
  have : ((w.setCell ⟨b', o', none⟩ u).drew).cell? ⟨b, o, none⟩ = (w.setCell ⟨b', o', none⟩ u).cell? ⟨b, o, none⟩ := rfl
  rw [this, ← h]
  by_cases hb : b = b'
  · subst hb
    have ho : o ≠ o' := hn.resolve_left (fun q => q rfl)
    simp [World.cell?, World.setCell, Array.getElem?_modify]
    cases w.heap[b]? with
    | none => rfl
    | some x => cases x <;> simp [Ne.symm ho]
  · unfold World.cell?
    simp only
    rw [Below.heap_setCell _ _ _ _ hb]
end
end Go.Proofs.YtbaahbpianingaaGreatDoor
/-
  DERIVED: THE SHELF's CONTRACTS AT THIS DUMP, IN PLAIN WORDS (tools/lay-plain.mjs out of 'TryzShelf.lean', which tools/lay-shelf.mjs wrote): THE SAME DECLARATIONS UNDER THE SAME NAMES: 'import', 'namespace', 'open', 'def', 'theorem' AND NOTHING ELSE: no command of the shelf's: FOR A HAND-IN. Each laying: the table of numbers ('.._ren') and one theorem, a field a fact of the dump's own or the kernel's comparison; each contract: ONE APPLICATION.
-/
namespace Go.Proofs
open Go.Shelf
def Tryz.laysM171_ren : Go.Shelf.Ren := ⟨fun | 171 => 38 | 243 => 49 | 246 => 61 | 283 => 69 | 284 => 70 | 285 => 71 | 286 => 72 | 129 => 85 | 317 => 84 | 318 => 86 | 319 => 87 | 320 => 88 | 337 => 99 | 338 => 100 | n => n, fun | 3 => 3 | 9 => 9 | 2 => 2 | 4 => 4 | 171 => 98 | 0 => 0 | 53 => 99 | 37 => 77 | 5 => 5 | 173 => 102 | 212 => 113 | 51 => 90 | 20 => 20 | 213 => 114 | 46 => 109 | 232 => 134 | 233 => 135 | n => n, fun | 17 => 1 | 18 => 4 | 19 => 5 | n => n⟩
theorem Tryz.laysM171 : Go.Proofs.LaysM.n171 Tryz.prog Tryz.laysM171_ren := {
  mixed := by kernel_rfl
  f129 := Tryz.func85.trans (congrArg some (by kernel_rfl))
  f171 := Tryz.func38.trans (congrArg some (by kernel_rfl))
  f243 := Tryz.func49.trans (congrArg some (by kernel_rfl))
  f246 := Tryz.func61.trans (congrArg some (by kernel_rfl))
  f283 := Tryz.func69.trans (congrArg some (by kernel_rfl))
  f284 := Tryz.func70.trans (congrArg some (by kernel_rfl))
  f285 := Tryz.func71.trans (congrArg some (by kernel_rfl))
  f286 := Tryz.func72.trans (congrArg some (by kernel_rfl))
  f317 := Tryz.func84.trans (congrArg some (by kernel_rfl))
  f318 := Tryz.func86.trans (congrArg some (by kernel_rfl))
  f319 := Tryz.func87.trans (congrArg some (by kernel_rfl))
  f320 := Tryz.func88.trans (congrArg some (by kernel_rfl))
  f337 := Tryz.func99.trans (congrArg some (by kernel_rfl))
  f338 := Tryz.func100.trans (congrArg some (by kernel_rfl))
  t0 := Tryz.underlying0
  a0 := Tryz.isAgg0
  z0 := Tryz.sizeOf0
  v0 := Tryz.zeroValue0
  t2 := Tryz.underlying2
  a2 := Tryz.isAgg2
  z2 := Tryz.sizeOf2
  v2 := Tryz.zeroValue2
  t3 := Tryz.underlying3
  a3 := Tryz.isAgg3
  z3 := Tryz.sizeOf3
  v3 := Tryz.zeroValue3
  t4 := Tryz.underlying4
  a4 := Tryz.isAgg4
  z4 := Tryz.sizeOf4
  v4 := Tryz.zeroValue4
  t5 := Tryz.underlying5
  a5 := Tryz.isAgg5
  z5 := Tryz.sizeOf5
  v5 := Tryz.zeroValue5
  t9 := Tryz.underlying9
  a9 := Tryz.isAgg9
  z9 := Tryz.sizeOf9
  v9 := Tryz.zeroValue9
  t20 := Tryz.underlying20
  a20 := Tryz.isAgg20
  z20 := Tryz.sizeOf20
  v20 := Tryz.zeroValue20
  t37 := Tryz.underlying77
  a37 := Tryz.isAgg77
  z37 := Tryz.sizeOf77
  v37 := Tryz.zeroValue77
  t46 := Tryz.underlying109
  a46 := Tryz.isAgg109
  z46 := Tryz.sizeOf109
  v46 := Tryz.zeroValue109
  t51 := Tryz.underlying90
  a51 := Tryz.isAgg90
  z51 := Tryz.sizeOf90
  v51 := Tryz.zeroValue90
  t53 := Tryz.underlying99
  a53 := Tryz.isAgg99
  z53 := Tryz.sizeOf99
  v53 := Tryz.zeroValue99
  t171 := Tryz.underlying98
  a171 := Tryz.isAgg98
  z171 := Tryz.sizeOf98
  v171 := Tryz.zeroValue98
  t173 := Tryz.underlying102
  a173 := Tryz.isAgg102
  z173 := Tryz.sizeOf102
  v173 := Tryz.zeroValue102
  t212 := Tryz.underlying113
  a212 := Tryz.isAgg113
  z212 := Tryz.sizeOf113
  v212 := Tryz.zeroValue113
  t213 := Tryz.underlying114
  a213 := Tryz.isAgg114
  z213 := Tryz.sizeOf114
  t232 := Tryz.underlying134
  a232 := Tryz.isAgg134
  z232 := Tryz.sizeOf134
  v232 := Tryz.zeroValue134
  t233 := Tryz.underlying135
  a233 := Tryz.isAgg135
  z233 := Tryz.sizeOf135
  v233 := Tryz.zeroValue135
  g17 := by kernel_rfl
  g18 := by kernel_rfl
  g19 := by kernel_rfl
  i0 := by kernel_rfl
  i2 := by kernel_rfl
  i3 := by kernel_rfl
  i4 := by kernel_rfl
  i5 := by kernel_rfl
  i9 := by kernel_rfl
  i20 := by kernel_rfl
  i37 := by kernel_rfl
  i46 := by kernel_rfl
  i51 := by kernel_rfl
  i53 := by kernel_rfl
  i171 := by kernel_rfl
  i173 := by kernel_rfl
  i212 := by kernel_rfl
  i232 := by kernel_rfl
  i233 := by kernel_rfl
  m17 := by kernel_rfl
  m18 := by kernel_rfl
  m19 := by kernel_rfl }
open Go.RowKit Go.Sort Go.Lib in
/-- strconv.Itoa: "Itoa is equivalent to FormatInt(int64(i), 10).": i's DECIMAL NUMERAL ('Lib.itoa': a '-' where i is negative, then the digits), FOR EVERY int. The world behind the call: the world before it, new blocks behind the heap (the library's 'var a [24]byte'), draws. (LAID: no walk: one application.) -/
theorem Tryz.strconv_Itoa (n : Int) (h0 : -9223372036854775808 ≤ n) (h1 : n ≤ 9223372036854775807) (w : World) (htab : Lib.TabIs Tryz.prog w "internal/strconv.uint64pow10" .u64 Lib.pow10Tab) :
    Calls Tryz.prog 38 #[.int .i64 n] w fun e w' => e = .returned (.string ⟨(Lib.itoa n).toArray⟩) ∧ ∃ k os, w' = grow (w.drewN k) os := Any.strconv_Itoa Tryz.laysM171 n h0 h1 w htab
end Go.Proofs
namespace Go.Proofs.YtbaahbpianingaaGreatDoor
open Go Go.Proofs Go.RowKit
open Acc (Dk red five)
set_option maxHeartbeats 4000000
set_option maxRecDepth 100000
/-- The table that strconv.Itoa reads, whatever is done from the blocks of the call on. -/
def Tabs (w : World) : Prop := Lib.TabBelow Tryz.prog 2 w "internal/strconv.uint64pow10" .u64 Lib.pow10Tab
theorem Tabs.below {w w' : World} {B : Nat} (h : Tabs w) (hb : Below B w w') (h8 : 2 ≤ B) : Tabs w' := Lib.TabBelow.on h (Below.mono hb h8)
theorem grow_ext (w : World) (k : Nat) (os : Array Obj) : Ext w (Sort.grow (w.drewN k) os) := by
  refine ⟨rfl, rfl, rfl, by simp [Sort.grow], fun b hb => ?_⟩
  show (w.heap ++ os)[b]? = w.heap[b]?
  rw [Array.getElem?_append_left hb]
theorem itoa_c (n : Int) (w : World) (h0 : -9223372036854775808 ≤ n) (h1 : n ≤ 9223372036854775807) (ht : Tabs w) :
    Calls Tryz.prog 38 #[.int .i64 n] w fun e w' => e = .returned (.string (strOfNums (Acc.signed n))) ∧ Ext w w' := by
  refine (Tryz.strconv_Itoa n h0 h1 w (Lib.TabBelow.here ht)).mono ?_
  rintro e w' ⟨rfl, k, os, rfl⟩
  rw [Acc.itoa_signed]
  exact ⟨rfl, grow_ext w k os⟩
theorem strOfNums_append (l m : List Int) : strOfNums l ++ strOfNums m = strOfNums (l ++ m) := by
  apply ByteArray.ext
  apply Array.toList_inj.1
  rw [ByteArray.data_append, Array.toList_append, strOfNums_data, strOfNums_data, strOfNums_data, List.map_append]
theorem strOfNums_nl : (⟨#[10]⟩ : ByteArray) = strOfNums [10] := rfl
theorem strOfNums_size (l : List Int) : (strOfNums l).size = l.length := by
  show (strOfNums l).data.size = _
  rw [← Array.length_toList, strOfNums_data]; simp
end Go.Proofs.YtbaahbpianingaaGreatDoor
namespace Go.Proofs.YtbaahbpianingaaGreatDoor
open Go Go.Proofs Go.RowKit
open Tape (Rule Ts splitP)
set_option maxHeartbeats 3200000
set_option maxRecDepth 100000
/-- The bytes of a text, as numbers. -/
def numsT (B : ByteArray) : List Int := B.data.toList.map (fun b => (b.toNat : Int))
theorem str_numsT (B : ByteArray) : strOfNums (numsT B) = B := by
  have h : strOfNums (numsT B) = ⟨B.data⟩ := by
    unfold strOfNums numsT
    congr 1
    rw [List.map_map]
    have : ((fun n : Int => UInt8.ofNat n.toNat) ∘ fun b : UInt8 => (b.toNat : Int)) = id := by
      funext b
      simp
    rw [this, List.map_id]
  rw [h]
theorem numsT_len (B : ByteArray) : (numsT B).length = B.size := by
  unfold numsT
  rw [List.length_map, Array.length_toList]
  rfl
theorem nums_str {l : List Int} (h : Byt l) : numsT (strOfNums l) = l := by
  unfold strOfNums numsT
  show ((l.map fun n => UInt8.ofNat n.toNat).toArray.toList).map (fun b => (b.toNat : Int)) = l
  rw [List.map_map]
  conv => rhs; rw [← List.map_id l]
  apply List.map_congr_left
  intro x hx
  have := h x hx
  show (((UInt8.ofNat x.toNat).toNat : Nat) : Int) = x
  rw [UInt8.toNat_ofNat_of_lt' (by show x.toNat < 256; omega)]
  omega
theorem decT_byt (n : Nat) : Byt (Acc.dec n) := fun c hc => by have := Tape.dec_mem n c hc; omega
def tw (k : UInt8) (u : List UInt8) : List UInt8 := u.takeWhile (fun x => decide (x ≠ k))
def dw (k : UInt8) (u : List UInt8) : List UInt8 := u.dropWhile (fun x => decide (x ≠ k))
theorem tw_dw (k : UInt8) (u : List UInt8) : tw k u ++ dw k u = u := List.takeWhile_append_dropWhile
theorem take_tw (k : UInt8) (u : List UInt8) : u.take (tw k u).length = tw k u := by
  have h := tw_dw k u
  conv => lhs; arg 2; rw [← h]
  rw [List.take_left]
theorem drop_tw (k : UInt8) (u : List UInt8) : u.drop ((tw k u).length + 1) = (dw k u).drop 1 := by
  have h := tw_dw k u
  conv => lhs; arg 2; rw [← h]
  rw [← List.drop_drop, List.drop_left]
theorem index_single (k : UInt8) : ∀ u : List UInt8, Lib.index u [k] = if k ∈ u then ((tw k u).length : Int) else -1
  | [] => by simp [Lib.index]
  | b :: l => by
    have ih := index_single k l
    rw [Lib.index]
    by_cases h : b = k
    · subst h
      simp [List.isPrefixOf, tw]
    · have h2 : List.isPrefixOf [k] (b :: l) = false := by simp [List.isPrefixOf, Ne.symm h]
      have h3 : tw k (b :: l) = b :: tw k l := by unfold tw; rw [List.takeWhile_cons_of_pos (by simp [h])]
      rw [h2, ih, h3]
      by_cases hm : k ∈ l
      · rw [if_pos hm, if_pos (List.mem_cons_of_mem _ hm)]
        have : ¬ (((tw k l).length : Int) == -1) = true := by simp
        rw [if_neg (by decide), if_neg this]
        simp
      · have hm2 : k ∉ b :: l := fun q => by
          rcases List.mem_cons.1 q with e | e
          · exact h e.symm
          · exact hm e
        rw [if_neg hm, if_neg hm2]
        rfl
theorem split_count (k : UInt8) : ∀ (fuel : Nat) (u : List UInt8), u.length < fuel → Lib.splitK [k] 0 (Lib.countFrom [k] fuel u) u = splitP k u ∧ (splitP k u).length = Lib.countFrom [k] fuel u + 1
  | 0, u, h => by omega
  | fuel + 1, u, h => by
    rw [Lib.countFrom, index_single]
    by_cases hm : k ∈ u
    · rw [if_pos hm]
      have hne : ¬ (((tw k u).length : Int) == -1) = true := by simp
      have hlen : (tw k u).length < u.length := by
        have h1 := tw_dw k u
        have h2 : (tw k u).length + (dw k u).length = u.length := by rw [← List.length_append, h1]
        rcases hd : dw k u with _ | ⟨x, r⟩
        · exfalso
          rw [hd, List.append_nil] at h1
          have : k ∈ tw k u := by rw [h1]; exact hm
          have hall : ∀ (l : List UInt8) (x : UInt8), x ∈ tw k l → x ≠ k := by
            intro l
            induction l with
            | nil => intro x hx; simp [tw] at hx
            | cons y l ih =>
              intro x hx
              unfold tw at hx
              rw [List.takeWhile_cons] at hx
              split at hx
              · rename_i hy
                rcases List.mem_cons.1 hx with e | e
                · rw [e]; simpa using hy
                · exact ih x e
              · simp at hx
          exact hall u k this rfl
        · rw [hd] at h2; simp at h2; omega
      rw [if_neg hne, Int.toNat_natCast]
      show Lib.splitK [k] 0 (1 + Lib.countFrom [k] fuel (u.drop ((tw k u).length + 1))) u = _ ∧ _ = 1 + Lib.countFrom [k] fuel (u.drop ((tw k u).length + 1)) + 1
      obtain ⟨i1, i2⟩ := split_count k fuel (u.drop ((tw k u).length + 1)) (by rw [List.length_drop]; omega)
      rw [Nat.add_comm 1, Lib.splitK, index_single, if_pos hm, if_neg hne, Int.toNat_natCast, Nat.add_zero, take_tw]
      show tw k u :: Lib.splitK [k] 0 _ (u.drop ((tw k u).length + 1)) = _ ∧ _
      rw [i1, Tape.splitP_hit hm, drop_tw]
      refine ⟨rfl, ?_⟩
      rw [drop_tw] at i2
      rw [List.length_cons]
      exact congrArg (· + 1) i2
    · rw [if_neg hm, Tape.splitP_none hm]
      exact ⟨rfl, rfl⟩
theorem cut_single (k : UInt8) (u : List UInt8) : Lib.cut u [k] = if k ∈ u then (tw k u, (dw k u).drop 1, true) else (u, [], false) := by
  unfold Lib.cut
  rw [index_single]
  by_cases hm : k ∈ u
  · rw [if_pos hm, if_pos (by omega), Int.toNat_natCast, take_tw, if_pos hm]
    show (tw k u, u.drop ((tw k u).length + 1), true) = _
    rw [drop_tw]
  · rw [if_neg hm, if_neg (by omega), if_neg hm]
/-- The bytes as numbers. -/
def nums8 (u : List UInt8) : List Int := u.map (fun b => (b.toNat : Int))
theorem nat8_inj (x y : UInt8) (h : (x.toNat : Int) = (y.toNat : Int)) : x = y := UInt8.toNat_inj.1 (by omega)
theorem split_nums (k : UInt8) (u : List UInt8) : splitP (k.toNat : Int) (nums8 u) = (splitP k u).map nums8 := Tape.splitP_map (fun b : UInt8 => (b.toNat : Int)) nat8_inj k u
theorem mem_nums {k : UInt8} {u : List UInt8} : (k.toNat : Int) ∈ nums8 u ↔ k ∈ u := by
  unfold nums8
  rw [List.mem_map]
  refine ⟨fun ⟨a, h1, h2⟩ => ?_, fun h => ⟨k, h, rfl⟩⟩
  rw [← nat8_inj _ _ h2]; exact h1
theorem nums_of (B : ByteArray) : numsT B = nums8 B.data.toList := rfl
theorem nums8_of (u : List UInt8) : numsT ⟨u.toArray⟩ = nums8 u := rfl
/-- The pieces of a string. -/
theorem splitB_nums (k : UInt8) (S : ByteArray) : (Lib.splitB ⟨#[k]⟩ 0 (Lib.countB S ⟨#[k]⟩) S).map numsT = splitP (k.toNat : Int) (numsT S) ∧ Lib.countB S ⟨#[k]⟩ + 1 = (splitP (k.toNat : Int) (numsT S)).length := by
  have h := split_count k (S.data.toList.length + 1) S.data.toList (by omega)
  have hd := Lib.splitB_data ⟨#[k]⟩ 0 (Lib.countB S ⟨#[k]⟩) S
  have hc : Lib.countB S ⟨#[k]⟩ = Lib.countFrom [k] (S.data.toList.length + 1) S.data.toList := rfl
  rw [nums_of, split_nums, List.length_map, h.2, hc]
  refine ⟨?_, rfl⟩
  rw [hc] at hd
  have hd' : (Lib.splitB ⟨#[k]⟩ 0 (Lib.countFrom [k] (S.data.toList.length + 1) S.data.toList) S).map (fun x => x.data.toList) = splitP k S.data.toList := hd.trans h.1
  rw [← hd', List.map_map]
  rfl
def digU (b : UInt8) : Prop := 48 ≤ b.toNat ∧ b.toNat ≤ 57
def valU (acc : Nat) (u : List UInt8) : Nat := u.foldl (fun n c => n * 10 + (c.toNat - 48)) acc
theorem valU_ge : ∀ (u : List UInt8) (acc : Nat), acc ≤ valU acc u
  | [], acc => Nat.le_refl _
  | c :: r, acc => by
    have := valU_ge r (acc * 10 + (c.toNat - 48))
    show acc ≤ valU (acc * 10 + (c.toNat - 48)) r
    omega
theorem parse_val : ∀ (u : List UInt8) (acc : Nat), (∀ b ∈ u, digU b) → valU acc u < 9223372036854775808 → Lib.parseUint10 acc u = .ok (valU acc u)
  | [], acc, _, _ => rfl
  | c :: r, acc, hd, hv => by
    have hc := hd c (by simp)
    have h1 := valU_ge r (acc * 10 + (c.toNat - 48))
    have hv' : valU (acc * 10 + (c.toNat - 48)) r < 9223372036854775808 := hv
    unfold digU at hc
    rw [Lib.parseUint10, if_pos hc, if_neg (by omega), if_neg (by omega)]
    exact parse_val r _ (fun b hb => hd b (List.mem_cons_of_mem _ hb)) hv'
theorem valU_num : ∀ (u : List UInt8) (acc : Nat), (nums8 u).foldl (fun (n : Nat) (c : Int) => 10 * n + (c - 48).toNat) acc = valU acc u
  | [], _ => rfl
  | c :: r, acc => by
    show (nums8 r).foldl _ (10 * acc + ((c.toNat : Int) - 48).toNat) = valU (acc * 10 + (c.toNat - 48)) r
    rw [show 10 * acc + ((c.toNat : Int) - 48).toNat = acc * 10 + (c.toNat - 48) by omega]
    exact valU_num r _
theorem dec_ne (n : Nat) : Acc.dec n ≠ [] := by
  rw [Acc.dec]; split <;> simp
theorem atoi_dec {S : ByteArray} {n : Nat} (h : numsT S = Acc.dec n) (hn : n < 9223372036854775808) : Lib.atoiAll S.data.toList = .ok (n : Int) := by
  rw [nums_of] at h
  obtain ⟨u, hu⟩ : ∃ u, S.data.toList = u := ⟨_, rfl⟩
  rw [hu] at h ⊢
  have hd : ∀ b ∈ u, digU b := by
    intro b hb
    have : (b.toNat : Int) ∈ nums8 u := mem_nums.2 hb
    rw [h] at this
    have := Tape.dec_mem _ _ this
    exact ⟨by omega, by omega⟩
  have hv : valU 0 u = n := by
    rw [← valU_num u 0, h]
    exact Tape.num_dec n
  cases u with
  | nil => exact absurd h.symm (dec_ne n)
  | cons c r =>
    have hc := hd c (by simp)
    unfold digU at hc
    have hp : Lib.parseMag (c :: r) = .ok n := by
      unfold Lib.parseMag
      rw [if_neg (by simp), parse_val _ 0 hd (by omega), hv]
    unfold Lib.atoiAll
    simp only
    rw [if_neg (by omega), hp]
    simp only
    rw [if_neg (by omega), if_neg (by omega), if_neg (by omega)]
theorem atoi_back {S : ByteArray} {v : Int} (_h : Lib.atoiAll S.data.toList = .ok v) (hv : 0 ≤ v) (he : strOfNums (Acc.signed v) = S) : Tape.rdNum (numsT S) = some v.toNat := by
  have hb := Lib.atoiAll_bounds _h
  have h1 : numsT S = Acc.dec v.toNat := by
    rw [← he]
    unfold Acc.signed
    rw [if_neg (by omega)]
    exact nums_str (decT_byt _)
  rw [h1]
  exact Tape.rdNum_dec (by omega)
end Go.Proofs.YtbaahbpianingaaGreatDoor
namespace Go.Proofs.YtbaahbpianingaaGreatDoor
open Go Go.Proofs Go.RowKit
open Tape (Rule Ts splitP)
set_option maxHeartbeats 6400000
set_option maxRecDepth 100000
def IfaceAt (w : World) (g : Nat) : Prop := ∃ ev, w.cell? ⟨g, 0, none⟩ = some ev ∧ (ev = .nilIface ∨ ∃ te pe, ev = .iface te pe)
/-- What the library's functions read of the package variables. -/
structure TabT (w : World) : Prop where
  t : Tabs w
  m : ∃ m, w.cell? ⟨0, 0, none⟩ = some (.int .i64 m)
  s : IfaceAt w 2
  r : IfaceAt w 3
  lt : 4 ≤ w.heap.size
theorem IfaceAt.ext {w w' : World} {g : Nat} (h : IfaceAt w g) (e : Ext w w') : IfaceAt w' g := by
  obtain ⟨ev, h1, h2⟩ := h
  exact ⟨ev, e.cell h1, h2⟩
theorem TabT.ext {w w' : World} (h : TabT w) (e : Ext w w') : TabT w' := by
  obtain ⟨m, hm⟩ := h.m
  exact ⟨h.t.below e (by have := h.lt; omega), ⟨m, e.cell hm⟩, h.s.ext e, h.r.ext e, Nat.le_trans h.lt e.size⟩
theorem bytes_ext (w : World) (e : TypeId) (s : ByteArray) : Ext w (Lib.bytesWorld w e s) :=
  ⟨rfl, rfl, rfl, by rw [Lib.bytesWorld_size]; omega, fun g hg => Lib.bytesWorld_at_old w e s g hg⟩
def AtoiRet (w : World) (S : ByteArray) (e : Ending) (w' : World) : Prop :=
  Ext w w' ∧ ((∃ v, Lib.atoiAll S.data.toList = .ok v ∧ e = .returned (.tuple #[.int .i64 v, .nilIface])) ∨
    (∃ x T p, (∀ v, Lib.atoiAll S.data.toList ≠ .ok v) ∧ e = .returned (.tuple #[.int .i64 x, .iface T (.pointer p)])))
theorem atoi_c (S : ByteArray) (w : World) (hl : S.size ≤ 5000) (ht : TabT w) : Calls Tryz.prog 66 #[.string S] w (AtoiRet w S) := by
  cases h : Lib.atoiAll S.data.toList with
  | ok v =>
    refine (Tryz.strconv_Atoi_ok S (by omega) v h w).mono ?_
    rintro e w' ⟨rfl, hw⟩
    refine ⟨?_, .inl ⟨v, h, rfl⟩⟩
    rcases hw with rfl | ⟨t, rfl⟩
    · exact Ext.refl _
    · exact bytes_ext w _ _
  | range =>
    obtain ⟨ev, h1, h2⟩ := ht.r
    refine (Any.strconv_Atoi_range Tryz.laysC172 S (by omega) h ev w h1 h2).mono ?_
    rintro e w' ⟨N, rfl, _, _, hb⟩
    exact ⟨hb, .inr ⟨_, _, _, (fun v hv => by rw [h] at hv; cases hv), rfl⟩⟩
  | _ =>
    obtain ⟨ev, h1, h2⟩ := ht.s
    refine (Any.strconv_Atoi_syntax Tryz.laysC172 S (by omega) h ev w h1 h2).mono ?_
    rintro e w' ⟨N, rfl, _, _, hb⟩
    exact ⟨hb, .inr ⟨_, _, _, (fun v hv => by rw [h] at hv; cases hv), rfl⟩⟩
theorem str_ne {a b : ByteArray} (h : a ≠ b) : (a.toList == b.toList) = false := by
  cases hq : a.toList == b.toList with
  | false => rfl
  | true =>
    exfalso
    apply h
    have : a.toList = b.toList := by simpa using hq
    rw [ByteArray.toList_eq, ByteArray.toList_eq] at this
    exact ByteArray.ext (Array.toList_inj.1 this)
def NumRet (w : World) (S : ByteArray) (e : Ending) (w' : World) : Prop :=
  Ext w w' ∧ ((∃ n : Nat, Tape.rdNum (numsT S) = some n ∧ e = .returned (.tuple #[.int .i64 (n : Int), .bool true])) ∨ (∃ x, Tape.rdNum (numsT S) = none ∧ e = .returned (.tuple #[.int .i64 x, .bool false])))
theorem num_no {S : ByteArray} (h : ∀ v, Lib.atoiAll S.data.toList ≠ .ok v) : Tape.rdNum (numsT S) = none := by
  rcases hr : Tape.rdNum (numsT S) with _ | n
  · rfl
  · exfalso
    have h2 := hr
    unfold Tape.rdNum at h2
    split at h2
    · rename_i q
      injection h2 with h2
      rw [h2] at q
      exact h _ (atoi_dec q.1 q.2)
    · cases h2
theorem num_neg {S : ByteArray} {v : Int} (h : Lib.atoiAll S.data.toList = .ok v) (hv : v < 0) : Tape.rdNum (numsT S) = none := by
  rcases hr : Tape.rdNum (numsT S) with _ | n
  · rfl
  · exfalso
    have h2 := hr
    unfold Tape.rdNum at h2
    split at h2
    · rename_i q
      injection h2 with h2
      rw [h2] at q
      have := atoi_dec q.1 q.2
      rw [h] at this
      injection this
      omega
    · cases h2
theorem num_other {S : ByteArray} {v : Int} (h : Lib.atoiAll S.data.toList = .ok v) (_hv : 0 ≤ v) (hne : strOfNums (Acc.signed v) ≠ S) : Tape.rdNum (numsT S) = none := by
  rcases hr : Tape.rdNum (numsT S) with _ | n
  · rfl
  · exfalso
    have h2 := hr
    unfold Tape.rdNum at h2
    split at h2
    · rename_i q
      injection h2 with h2
      rw [h2] at q
      have := atoi_dec q.1 q.2
      rw [h] at this
      injection this with this
      apply hne
      rw [this]
      unfold Acc.signed
      rw [if_neg (by omega), Int.toNat_natCast, ← q.1, str_numsT]
    · cases h2
theorem readNumber_c (S : ByteArray) (w : World) (hl : S.size ≤ 5000) (ht : TabT w) : Calls Tryz.prog 55 #[.string S] w (NumRet w S) := by
  have HA := Lib.hid (atoi_c S w hl ht)
  have HT := Lib.hid ht
  clear hl ht
  go_enter Tryz.func55, Tryz.ntmps55
  go_wp2_with fail
  refine HA.out.mono ?_
  rintro e w1 ⟨hx1, h⟩
  have HX1 := Lib.hid hx1
  clear hx1
  rcases h with ⟨v, hv, rfl⟩ | ⟨x, T, p, hno, rfl⟩
  · have HV := Lib.hid hv
    have hb := Lib.atoiAll_bounds hv
    obtain ⟨b0, b1⟩ := hb
    clear hv
    by_cases h0 : 0 ≤ v
    · have HI := Lib.hid (itoa_c v w1 b0 b1 (HT.out.ext HX1.out).t)
      have HBK : Hid (strOfNums (Acc.signed v) = S → Tape.rdNum (numsT S) = some v.toNat) := Lib.hid (fun he => atoi_back HV.out h0 he)
      have HNO : Hid (strOfNums (Acc.signed v) ≠ S → Tape.rdNum (numsT S) = none) := Lib.hid (fun he => num_other HV.out h0 he)
      by_cases he : strOfNums (Acc.signed v) = S
      · have hn := HBK.out he
        have HN := Lib.hid hn
        rw [he] at HI
        have h00 : v = ((v.toNat : Nat) : Int) := by omega
        have H00 := Lib.hid h00
        clear he hn HBK HNO HV h00
        go_wp2_with (go_at_call 38; refine HI.out.mono ?_; rintro e w2 ⟨rfl, hx2⟩)
        go_ret2
        exact ⟨HX1.out.trans hx2, .inl ⟨_, HN.out, (by rw [← H00.out]; rfl)⟩⟩
      · have hn := HNO.out he
        have HN := Lib.hid hn
        have hbq : ((strOfNums (Acc.signed v)).toList == S.toList) = false := str_ne he
        clear he hn HBK HNO HV
        generalize strOfNums (Acc.signed v) = Z at *
        go_wp2_with (go_at_call 38; refine HI.out.mono ?_; rintro e w2 ⟨rfl, hx2⟩)
        go_ret2
        exact ⟨HX1.out.trans hx2, .inr ⟨_, HN.out, rfl⟩⟩
    · have HN := Lib.hid (num_neg HV.out (by omega))
      clear HV
      go_wp2_with fail
      go_ret2
      exact ⟨HX1.out, .inr ⟨_, HN.out, rfl⟩⟩
  · have HN := Lib.hid (num_no hno)
    clear hno
    go_wp2_with fail
    go_ret2
    exact ⟨HX1.out, .inr ⟨_, HN.out, rfl⟩⟩
end Go.Proofs.YtbaahbpianingaaGreatDoor
namespace Go.Proofs.YtbaahbpianingaaGreatDoor
open Go Go.Proofs Go.RowKit
open Acc (Dk red five)
set_option maxHeartbeats 4000000
set_option maxRecDepth 100000
def fAgg (p : Int × Int) : Value := .agg #[.int .i64 p.1, .int .i64 p.2]
def FRet (w : World) (p : Int × Int) (e : Ending) (w' : World) : Prop := e = .returned (fAgg p) ∧ Ext w w'
theorem FRet.mk {w w' : World} {p q : Int × Int} (h : q = p) (x : Ext w w') : FRet w p (.returned (fAgg q)) w' := ⟨by rw [h], x⟩
end Go.Proofs.YtbaahbpianingaaGreatDoor
