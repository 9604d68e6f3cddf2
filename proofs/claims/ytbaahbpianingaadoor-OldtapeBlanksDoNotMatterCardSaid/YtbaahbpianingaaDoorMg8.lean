import Derived.Shelf.Strconv.Itoa0
import Derived.Shelf.Strconv.Itoa1
import Derived.Shelf.LaysM
import Derived.Shelf.Strconv.Itoa2
import Derived.Shelf.Strconv.Itoa3
import Derived.Shelf.Slices.Reverse
import Derived.Ground.Names2Prog
import Derived.Shelf.Slices.Clone
import Derived.Shelf.Slices.Cells
import Derived.Test.YtbaahbpianingaaDoorProg
import Derived.Test.YtbaahbpianingaaDoorMg7
import Derived.Lib.AppendIntMem
import Derived.Lib.AppendStr
import Derived.Test.YtbaahbpianingaaDoorMg2
import Derived.Lib.Split
import Derived.Lib.AtoiAllCases
/-
  DERIVED: THE SHELF's CONTRACTS AT THIS DUMP, IN PLAIN WORDS (tools/lay-plain.mjs out of 'TrydShelf.lean', which tools/lay-shelf.mjs wrote): THE SAME DECLARATIONS UNDER THE SAME NAMES: 'import', 'namespace', 'open', 'def', 'theorem' AND NOTHING ELSE: no command of the shelf's: FOR A HAND-IN. Each laying: the table of numbers ('.._ren') and one theorem, a field a fact of the dump's own or the kernel's comparison; each contract: ONE APPLICATION.
-/
namespace Go.Proofs
open Go.Shelf
def Tryd.laysM171_ren : Go.Shelf.Ren := ⟨fun | 171 => 60 | 243 => 85 | 246 => 120 | 283 => 127 | 284 => 128 | 285 => 129 | 286 => 130 | 129 => 142 | 317 => 141 | 318 => 143 | 319 => 144 | 320 => 145 | 337 => 156 | 338 => 157 | n => n, fun | 3 => 3 | 9 => 9 | 2 => 2 | 4 => 4 | 171 => 132 | 0 => 0 | 53 => 133 | 37 => 23 | 5 => 5 | 173 => 136 | 212 => 146 | 51 => 108 | 20 => 20 | 213 => 147 | 46 => 142 | 232 => 167 | 233 => 168 | n => n, fun | 17 => 1 | 18 => 4 | 19 => 5 | n => n⟩
theorem Tryd.laysM171 : Go.Proofs.LaysM.n171 Tryd.prog Tryd.laysM171_ren := {
  mixed := by kernel_rfl
  f129 := Tryd.func142.trans (congrArg some (by kernel_rfl))
  f171 := Tryd.func60.trans (congrArg some (by kernel_rfl))
  f243 := Tryd.func85.trans (congrArg some (by kernel_rfl))
  f246 := Tryd.func120.trans (congrArg some (by kernel_rfl))
  f283 := Tryd.func127.trans (congrArg some (by kernel_rfl))
  f284 := Tryd.func128.trans (congrArg some (by kernel_rfl))
  f285 := Tryd.func129.trans (congrArg some (by kernel_rfl))
  f286 := Tryd.func130.trans (congrArg some (by kernel_rfl))
  f317 := Tryd.func141.trans (congrArg some (by kernel_rfl))
  f318 := Tryd.func143.trans (congrArg some (by kernel_rfl))
  f319 := Tryd.func144.trans (congrArg some (by kernel_rfl))
  f320 := Tryd.func145.trans (congrArg some (by kernel_rfl))
  f337 := Tryd.func156.trans (congrArg some (by kernel_rfl))
  f338 := Tryd.func157.trans (congrArg some (by kernel_rfl))
  t0 := Tryd.underlying0
  a0 := Tryd.isAgg0
  z0 := Tryd.sizeOf0
  v0 := Tryd.zeroValue0
  t2 := Tryd.underlying2
  a2 := Tryd.isAgg2
  z2 := Tryd.sizeOf2
  v2 := Tryd.zeroValue2
  t3 := Tryd.underlying3
  a3 := Tryd.isAgg3
  z3 := Tryd.sizeOf3
  v3 := Tryd.zeroValue3
  t4 := Tryd.underlying4
  a4 := Tryd.isAgg4
  z4 := Tryd.sizeOf4
  v4 := Tryd.zeroValue4
  t5 := Tryd.underlying5
  a5 := Tryd.isAgg5
  z5 := Tryd.sizeOf5
  v5 := Tryd.zeroValue5
  t9 := Tryd.underlying9
  a9 := Tryd.isAgg9
  z9 := Tryd.sizeOf9
  v9 := Tryd.zeroValue9
  t20 := Tryd.underlying20
  a20 := Tryd.isAgg20
  z20 := Tryd.sizeOf20
  v20 := Tryd.zeroValue20
  t37 := Tryd.underlying23
  a37 := Tryd.isAgg23
  z37 := Tryd.sizeOf23
  v37 := Tryd.zeroValue23
  t46 := Tryd.underlying142
  a46 := Tryd.isAgg142
  z46 := Tryd.sizeOf142
  v46 := Tryd.zeroValue142
  t51 := Tryd.underlying108
  a51 := Tryd.isAgg108
  z51 := Tryd.sizeOf108
  v51 := Tryd.zeroValue108
  t53 := Tryd.underlying133
  a53 := Tryd.isAgg133
  z53 := Tryd.sizeOf133
  v53 := Tryd.zeroValue133
  t171 := Tryd.underlying132
  a171 := Tryd.isAgg132
  z171 := Tryd.sizeOf132
  v171 := Tryd.zeroValue132
  t173 := Tryd.underlying136
  a173 := Tryd.isAgg136
  z173 := Tryd.sizeOf136
  v173 := Tryd.zeroValue136
  t212 := Tryd.underlying146
  a212 := Tryd.isAgg146
  z212 := Tryd.sizeOf146
  v212 := Tryd.zeroValue146
  t213 := Tryd.underlying147
  a213 := Tryd.isAgg147
  z213 := Tryd.sizeOf147
  t232 := Tryd.underlying167
  a232 := Tryd.isAgg167
  z232 := Tryd.sizeOf167
  v232 := Tryd.zeroValue167
  t233 := Tryd.underlying168
  a233 := Tryd.isAgg168
  z233 := Tryd.sizeOf168
  v233 := Tryd.zeroValue168
  g17 := by kernel_rfl
  g18 := by kernel_rfl
  g19 := by kernel_rfl
  i0 := by kernel_rfl
  i2 := by kernel_rfl
  i3 := by kernel_rfl
  i4 := by kernel_rfl
  i5 := by kernel_rfl
  i9 := by kernel_rfl
  i20 := by kernel_rfl
  i37 := by kernel_rfl
  i46 := by kernel_rfl
  i51 := by kernel_rfl
  i53 := by kernel_rfl
  i171 := by kernel_rfl
  i173 := by kernel_rfl
  i212 := by kernel_rfl
  i232 := by kernel_rfl
  i233 := by kernel_rfl
  m17 := by kernel_rfl
  m18 := by kernel_rfl
  m19 := by kernel_rfl }
open Go.RowKit Go.Sort Go.Lib in
/-- strconv.Itoa: "Itoa is equivalent to FormatInt(int64(i), 10).": i's DECIMAL NUMERAL ('Lib.itoa': a '-' where i is negative, then the digits), FOR EVERY int. The world behind the call: the world before it, new blocks behind the heap (the library's 'var a [24]byte'), draws. (LAID: no walk: one application.) -/
theorem Tryd.strconv_Itoa (n : Int) (h0 : -9223372036854775808 ≤ n) (h1 : n ≤ 9223372036854775807) (w : World) (htab : Lib.TabIs Tryd.prog w "internal/strconv.uint64pow10" .u64 Lib.pow10Tab) :
    Calls Tryd.prog 60 #[.int .i64 n] w fun e w' => e = .returned (.string ⟨(Lib.itoa n).toArray⟩) ∧ ∃ k os, w' = grow (w.drewN k) os := Any.strconv_Itoa Tryd.laysM171 n h0 h1 w htab
end Go.Proofs
namespace Go.Proofs.YtbaahbpianingaaDoor
open Go Go.Proofs Go.RowKit
open Acc (Dk red five)
set_option maxHeartbeats 4000000
set_option maxRecDepth 100000
/-- The table that strconv.Itoa reads, whatever is done from the blocks of the call on. -/
def Tabs (w : World) : Prop := Lib.TabBelow Tryd.prog 2 w "internal/strconv.uint64pow10" .u64 Lib.pow10Tab
theorem Tabs.below {w w' : World} {B : Nat} (h : Tabs w) (hb : Below B w w') (h8 : 2 ≤ B) : Tabs w' := Lib.TabBelow.on h (Below.mono hb h8)
theorem grow_ext (w : World) (k : Nat) (os : Array Obj) : Ext w (Sort.grow (w.drewN k) os) := by
  refine ⟨rfl, rfl, rfl, by simp [Sort.grow], fun b hb => ?_⟩
  show (w.heap ++ os)[b]? = w.heap[b]?
  rw [Array.getElem?_append_left hb]
theorem itoa_c (n : Int) (w : World) (h0 : -9223372036854775808 ≤ n) (h1 : n ≤ 9223372036854775807) (ht : Tabs w) :
    Calls Tryd.prog 60 #[.int .i64 n] w fun e w' => e = .returned (.string (strOfNums (Acc.signed n))) ∧ Ext w w' := by
  refine (Tryd.strconv_Itoa n h0 h1 w (Lib.TabBelow.here ht)).mono ?_
  rintro e w' ⟨rfl, k, os, rfl⟩
  rw [Acc.itoa_signed]
  exact ⟨rfl, grow_ext w k os⟩
theorem strOfNums_append (l m : List Int) : strOfNums l ++ strOfNums m = strOfNums (l ++ m) := by
  apply ByteArray.ext
  apply Array.toList_inj.1
  rw [ByteArray.data_append, Array.toList_append, strOfNums_data, strOfNums_data, strOfNums_data, List.map_append]
theorem strOfNums_nl : (⟨#[10]⟩ : ByteArray) = strOfNums [10] := rfl
theorem strOfNums_size (l : List Int) : (strOfNums l).size = l.length := by
  show (strOfNums l).data.size = _
  rw [← Array.length_toList, strOfNums_data]; simp
theorem signed_len {n : Int} (h : five n = true) : (Acc.signed n).length ≤ 6 := by
  have h1 := Acc.five_iff.1 h
  unfold Acc.signed
  split
  · have := Acc.dec_len (n := (-n).toNat) (k := 5) (by omega) (by omega)
    simp; omega
  · have := Acc.dec_len (n := n.toNat) (k := 5) (by omega) (by omega)
    omega
theorem line_len {n : Int} (h : five n = true) : (Acc.lineF n).length ≤ 7 := by
  have := signed_len h
  unfold Acc.lineF
  simp; omega
theorem ret_str {a b : ByteArray} (h : a = b) : Ending.returned (.string a) = .returned (.string b) := by rw [h]
section
variable {w : World} {bm g : Nat} {s : Dk} {cs : Array Value} {vo : Value}
theorem line_c (h : MachIs w bm s cs vo) (hf : five s.a = true) (ht : Tabs w) :
    Calls Tryd.prog 68 #[.pointer (some ⟨bm, 0, none⟩)] w fun e w' => e = .returned (.string (strOfNums (Acc.lineF s.a))) ∧ Ext w w' := by
  have k1 := h.cA
  have a1 := Acc.five_iff.1 hf
  have HI := Lib.hid (itoa_c s.a w (by omega) (by omega) ht)
  have hlt := h.lt
  have he : strOfNums (Acc.signed s.a) ++ (⟨#[10]⟩ : ByteArray) = strOfNums (Acc.lineF s.a) := by rw [strOfNums_nl, strOfNums_append]; rfl
  have HE := Lib.hid he
  have hsl := signed_len hf
  have hsz : (strOfNums (Acc.signed s.a)).size ≤ 6 := by rw [strOfNums_size]; exact hsl
  clear hsl
  clear h ht he a1 hf
  go_enter Tryd.func68, Tryd.ntmps68
  go_wp2_with (go_at_call 60; refine HI.out.mono ?_; rintro e w' ⟨rfl, hx⟩)
  go_ret
  exact ⟨ret_str HE.out, hx⟩
end
end Go.Proofs.YtbaahbpianingaaDoor
namespace Go.Proofs.YtbaahbpianingaaDoor
open Go Go.Proofs Go.RowKit
open Tape (Rule Ts splitP)
set_option maxHeartbeats 3200000
set_option maxRecDepth 100000
/-- The bytes of a text, as numbers. -/
def numsT (B : ByteArray) : List Int := B.data.toList.map (fun b => (b.toNat : Int))
theorem numsT_byt (B : ByteArray) : Byt (numsT B) := by
  intro x hx
  obtain ⟨b, _, rfl⟩ := List.mem_map.1 hx
  have := b.toNat_lt
  omega
theorem str_numsT (B : ByteArray) : strOfNums (numsT B) = B := by
  have h : strOfNums (numsT B) = ⟨B.data⟩ := by
    unfold strOfNums numsT
    congr 1
    rw [List.map_map]
    have : ((fun n : Int => UInt8.ofNat n.toNat) ∘ fun b : UInt8 => (b.toNat : Int)) = id := by
      funext b
      simp
    rw [this, List.map_id]
  rw [h]
theorem numsT_len (B : ByteArray) : (numsT B).length = B.size := by
  unfold numsT
  rw [List.length_map, Array.length_toList]
  rfl
theorem nums_str {l : List Int} (h : Byt l) : numsT (strOfNums l) = l := by
  unfold strOfNums numsT
  show ((l.map fun n => UInt8.ofNat n.toNat).toArray.toList).map (fun b => (b.toNat : Int)) = l
  rw [List.map_map]
  conv => rhs; rw [← List.map_id l]
  apply List.map_congr_left
  intro x hx
  have := h x hx
  show (((UInt8.ofNat x.toNat).toNat : Nat) : Int) = x
  rw [UInt8.toNat_ofNat_of_lt' (by show x.toNat < 256; omega)]
  omega
theorem decT_byt (n : Nat) : Byt (Acc.dec n) := fun c hc => by have := Tape.dec_mem n c hc; omega
def tw (k : UInt8) (u : List UInt8) : List UInt8 := u.takeWhile (fun x => decide (x ≠ k))
def dw (k : UInt8) (u : List UInt8) : List UInt8 := u.dropWhile (fun x => decide (x ≠ k))
theorem tw_dw (k : UInt8) (u : List UInt8) : tw k u ++ dw k u = u := List.takeWhile_append_dropWhile
theorem take_tw (k : UInt8) (u : List UInt8) : u.take (tw k u).length = tw k u := by
  have h := tw_dw k u
  conv => lhs; arg 2; rw [← h]
  rw [List.take_left]
theorem drop_tw (k : UInt8) (u : List UInt8) : u.drop ((tw k u).length + 1) = (dw k u).drop 1 := by
  have h := tw_dw k u
  conv => lhs; arg 2; rw [← h]
  rw [← List.drop_drop, List.drop_left]
theorem index_single (k : UInt8) : ∀ u : List UInt8, Lib.index u [k] = if k ∈ u then ((tw k u).length : Int) else -1
  | [] => by simp [Lib.index]
  | b :: l => by
    have ih := index_single k l
    rw [Lib.index]
    by_cases h : b = k
    · subst h
      simp [List.isPrefixOf, tw]
    · have h2 : List.isPrefixOf [k] (b :: l) = false := by simp [List.isPrefixOf, Ne.symm h]
      have h3 : tw k (b :: l) = b :: tw k l := by unfold tw; rw [List.takeWhile_cons_of_pos (by simp [h])]
      rw [h2, ih, h3]
      by_cases hm : k ∈ l
      · rw [if_pos hm, if_pos (List.mem_cons_of_mem _ hm)]
        have : ¬ (((tw k l).length : Int) == -1) = true := by simp
        rw [if_neg (by decide), if_neg this]
        simp
      · have hm2 : k ∉ b :: l := fun q => by
          rcases List.mem_cons.1 q with e | e
          · exact h e.symm
          · exact hm e
        rw [if_neg hm, if_neg hm2]
        rfl
theorem split_count (k : UInt8) : ∀ (fuel : Nat) (u : List UInt8), u.length < fuel → Lib.splitK [k] 0 (Lib.countFrom [k] fuel u) u = splitP k u ∧ (splitP k u).length = Lib.countFrom [k] fuel u + 1
  | 0, u, h => by omega
  | fuel + 1, u, h => by
    rw [Lib.countFrom, index_single]
    by_cases hm : k ∈ u
    · rw [if_pos hm]
      have hne : ¬ (((tw k u).length : Int) == -1) = true := by simp
      have hlen : (tw k u).length < u.length := by
        have h1 := tw_dw k u
        have h2 : (tw k u).length + (dw k u).length = u.length := by rw [← List.length_append, h1]
        rcases hd : dw k u with _ | ⟨x, r⟩
        · exfalso
          rw [hd, List.append_nil] at h1
          have : k ∈ tw k u := by rw [h1]; exact hm
          have hall : ∀ (l : List UInt8) (x : UInt8), x ∈ tw k l → x ≠ k := by
            intro l
            induction l with
            | nil => intro x hx; simp [tw] at hx
            | cons y l ih =>
              intro x hx
              unfold tw at hx
              rw [List.takeWhile_cons] at hx
              split at hx
              · rename_i hy
                rcases List.mem_cons.1 hx with e | e
                · rw [e]; simpa using hy
                · exact ih x e
              · simp at hx
          exact hall u k this rfl
        · rw [hd] at h2; simp at h2; omega
      rw [if_neg hne, Int.toNat_natCast]
      show Lib.splitK [k] 0 (1 + Lib.countFrom [k] fuel (u.drop ((tw k u).length + 1))) u = _ ∧ _ = 1 + Lib.countFrom [k] fuel (u.drop ((tw k u).length + 1)) + 1
      obtain ⟨i1, i2⟩ := split_count k fuel (u.drop ((tw k u).length + 1)) (by rw [List.length_drop]; omega)
      rw [Nat.add_comm 1, Lib.splitK, index_single, if_pos hm, if_neg hne, Int.toNat_natCast, Nat.add_zero, take_tw]
      show tw k u :: Lib.splitK [k] 0 _ (u.drop ((tw k u).length + 1)) = _ ∧ _
      rw [i1, Tape.splitP_hit hm, drop_tw]
      refine ⟨rfl, ?_⟩
      rw [drop_tw] at i2
      rw [List.length_cons]
      exact congrArg (· + 1) i2
    · rw [if_neg hm, Tape.splitP_none hm]
      exact ⟨rfl, rfl⟩
theorem cut_single (k : UInt8) (u : List UInt8) : Lib.cut u [k] = if k ∈ u then (tw k u, (dw k u).drop 1, true) else (u, [], false) := by
  unfold Lib.cut
  rw [index_single]
  by_cases hm : k ∈ u
  · rw [if_pos hm, if_pos (by omega), Int.toNat_natCast, take_tw, if_pos hm]
    show (tw k u, u.drop ((tw k u).length + 1), true) = _
    rw [drop_tw]
  · rw [if_neg hm, if_neg (by omega), if_neg hm]
/-- The bytes as numbers. -/
def nums8 (u : List UInt8) : List Int := u.map (fun b => (b.toNat : Int))
theorem nat8_inj (x y : UInt8) (h : (x.toNat : Int) = (y.toNat : Int)) : x = y := UInt8.toNat_inj.1 (by omega)
theorem split_nums (k : UInt8) (u : List UInt8) : splitP (k.toNat : Int) (nums8 u) = (splitP k u).map nums8 := Tape.splitP_map (fun b : UInt8 => (b.toNat : Int)) nat8_inj k u
theorem mem_nums {k : UInt8} {u : List UInt8} : (k.toNat : Int) ∈ nums8 u ↔ k ∈ u := by
  unfold nums8
  rw [List.mem_map]
  refine ⟨fun ⟨a, h1, h2⟩ => ?_, fun h => ⟨k, h, rfl⟩⟩
  rw [← nat8_inj _ _ h2]; exact h1
theorem nums_of (B : ByteArray) : numsT B = nums8 B.data.toList := rfl
theorem nums8_of (u : List UInt8) : numsT ⟨u.toArray⟩ = nums8 u := rfl
theorem nums8_str (u : List UInt8) : strOfNums (nums8 u) = ⟨u.toArray⟩ := by rw [← nums8_of, str_numsT]
/-- The pieces of a string. -/
theorem splitB_nums (k : UInt8) (S : ByteArray) : (Lib.splitB ⟨#[k]⟩ 0 (Lib.countB S ⟨#[k]⟩) S).map numsT = splitP (k.toNat : Int) (numsT S) ∧ Lib.countB S ⟨#[k]⟩ + 1 = (splitP (k.toNat : Int) (numsT S)).length := by
  have h := split_count k (S.data.toList.length + 1) S.data.toList (by omega)
  have hd := Lib.splitB_data ⟨#[k]⟩ 0 (Lib.countB S ⟨#[k]⟩) S
  have hc : Lib.countB S ⟨#[k]⟩ = Lib.countFrom [k] (S.data.toList.length + 1) S.data.toList := rfl
  rw [nums_of, split_nums, List.length_map, h.2, hc]
  refine ⟨?_, rfl⟩
  rw [hc] at hd
  have hd' : (Lib.splitB ⟨#[k]⟩ 0 (Lib.countFrom [k] (S.data.toList.length + 1) S.data.toList) S).map (fun x => x.data.toList) = splitP k S.data.toList := hd.trans h.1
  rw [← hd', List.map_map]
  rfl
def digU (b : UInt8) : Prop := 48 ≤ b.toNat ∧ b.toNat ≤ 57
def valU (acc : Nat) (u : List UInt8) : Nat := u.foldl (fun n c => n * 10 + (c.toNat - 48)) acc
theorem valU_ge : ∀ (u : List UInt8) (acc : Nat), acc ≤ valU acc u
  | [], acc => Nat.le_refl _
  | c :: r, acc => by
    have := valU_ge r (acc * 10 + (c.toNat - 48))
    show acc ≤ valU (acc * 10 + (c.toNat - 48)) r
    omega
theorem parse_val : ∀ (u : List UInt8) (acc : Nat), (∀ b ∈ u, digU b) → valU acc u < 9223372036854775808 → Lib.parseUint10 acc u = .ok (valU acc u)
  | [], acc, _, _ => rfl
  | c :: r, acc, hd, hv => by
    have hc := hd c (by simp)
    have h1 := valU_ge r (acc * 10 + (c.toNat - 48))
    have hv' : valU (acc * 10 + (c.toNat - 48)) r < 9223372036854775808 := hv
    unfold digU at hc
    rw [Lib.parseUint10, if_pos hc, if_neg (by omega), if_neg (by omega)]
    exact parse_val r _ (fun b hb => hd b (List.mem_cons_of_mem _ hb)) hv'
theorem valU_num : ∀ (u : List UInt8) (acc : Nat), (nums8 u).foldl (fun (n : Nat) (c : Int) => 10 * n + (c - 48).toNat) acc = valU acc u
  | [], _ => rfl
  | c :: r, acc => by
    show (nums8 r).foldl _ (10 * acc + ((c.toNat : Int) - 48).toNat) = valU (acc * 10 + (c.toNat - 48)) r
    rw [show 10 * acc + ((c.toNat : Int) - 48).toNat = acc * 10 + (c.toNat - 48) by omega]
    exact valU_num r _
theorem dec_ne (n : Nat) : Acc.dec n ≠ [] := by
  rw [Acc.dec]; split <;> simp
theorem atoi_dec {S : ByteArray} {n : Nat} (h : numsT S = Acc.dec n) (hn : n < 9223372036854775808) : Lib.atoiAll S.data.toList = .ok (n : Int) := by
  rw [nums_of] at h
  obtain ⟨u, hu⟩ : ∃ u, S.data.toList = u := ⟨_, rfl⟩
  rw [hu] at h ⊢
  have hd : ∀ b ∈ u, digU b := by
    intro b hb
    have : (b.toNat : Int) ∈ nums8 u := mem_nums.2 hb
    rw [h] at this
    have := Tape.dec_mem _ _ this
    exact ⟨by omega, by omega⟩
  have hv : valU 0 u = n := by
    rw [← valU_num u 0, h]
    exact Tape.num_dec n
  cases u with
  | nil => exact absurd h.symm (dec_ne n)
  | cons c r =>
    have hc := hd c (by simp)
    unfold digU at hc
    have hp : Lib.parseMag (c :: r) = .ok n := by
      unfold Lib.parseMag
      rw [if_neg (by simp), parse_val _ 0 hd (by omega), hv]
    unfold Lib.atoiAll
    simp only
    rw [if_neg (by omega), hp]
    simp only
    rw [if_neg (by omega), if_neg (by omega), if_neg (by omega)]
theorem atoi_back {S : ByteArray} {v : Int} (_h : Lib.atoiAll S.data.toList = .ok v) (hv : 0 ≤ v) (he : strOfNums (Acc.signed v) = S) : Tape.rdNum (numsT S) = some v.toNat := by
  have hb := Lib.atoiAll_bounds _h
  have h1 : numsT S = Acc.dec v.toNat := by
    rw [← he]
    unfold Acc.signed
    rw [if_neg (by omega)]
    exact nums_str (decT_byt _)
  rw [h1]
  exact Tape.rdNum_dec (by omega)
end Go.Proofs.YtbaahbpianingaaDoor
namespace Go.Proofs.YtbaahbpianingaaDoor
open Go Go.Proofs Go.RowKit
open Tape (Rule Ts splitP)
set_option maxHeartbeats 6400000
set_option maxRecDepth 100000
def IfaceAt (w : World) (g : Nat) : Prop := ∃ ev, w.cell? ⟨g, 0, none⟩ = some ev ∧ (ev = .nilIface ∨ ∃ te pe, ev = .iface te pe)
/-- What the library's functions read of the package variables. -/
structure TabT (w : World) : Prop where
  t : Tabs w
  m : ∃ m, w.cell? ⟨0, 0, none⟩ = some (.int .i64 m)
  s : IfaceAt w 2
  r : IfaceAt w 3
  lt : 4 ≤ w.heap.size
theorem IfaceAt.ext {w w' : World} {g : Nat} (h : IfaceAt w g) (e : Ext w w') : IfaceAt w' g := by
  obtain ⟨ev, h1, h2⟩ := h
  exact ⟨ev, e.cell h1, h2⟩
theorem TabT.ext {w w' : World} (h : TabT w) (e : Ext w w') : TabT w' := by
  obtain ⟨m, hm⟩ := h.m
  exact ⟨h.t.below e (by have := h.lt; omega), ⟨m, e.cell hm⟩, h.s.ext e, h.r.ext e, Nat.le_trans h.lt e.size⟩
theorem bytes_ext (w : World) (e : TypeId) (s : ByteArray) : Ext w (Lib.bytesWorld w e s) :=
  ⟨rfl, rfl, rfl, by rw [Lib.bytesWorld_size]; omega, fun g hg => Lib.bytesWorld_at_old w e s g hg⟩
def AtoiRet (w : World) (S : ByteArray) (e : Ending) (w' : World) : Prop :=
  Ext w w' ∧ ((∃ v, Lib.atoiAll S.data.toList = .ok v ∧ e = .returned (.tuple #[.int .i64 v, .nilIface])) ∨
    (∃ x T p, (∀ v, Lib.atoiAll S.data.toList ≠ .ok v) ∧ e = .returned (.tuple #[.int .i64 x, .iface T (.pointer p)])))
theorem atoi_c (S : ByteArray) (w : World) (hl : S.size ≤ 5000) (ht : TabT w) : Calls Tryd.prog 125 #[.string S] w (AtoiRet w S) := by
  cases h : Lib.atoiAll S.data.toList with
  | ok v =>
    refine (Tryd.strconv_Atoi_ok S (by omega) v h w).mono ?_
    rintro e w' ⟨rfl, hw⟩
    refine ⟨?_, .inl ⟨v, h, rfl⟩⟩
    rcases hw with rfl | ⟨t, rfl⟩
    · exact Ext.refl _
    · exact bytes_ext w _ _
  | range =>
    obtain ⟨ev, h1, h2⟩ := ht.r
    refine (Any.strconv_Atoi_range Tryd.laysC172 S (by omega) h ev w h1 h2).mono ?_
    rintro e w' ⟨N, rfl, _, _, hb⟩
    exact ⟨hb, .inr ⟨_, _, _, (fun v hv => by rw [h] at hv; cases hv), rfl⟩⟩
  | _ =>
    obtain ⟨ev, h1, h2⟩ := ht.s
    refine (Any.strconv_Atoi_syntax Tryd.laysC172 S (by omega) h ev w h1 h2).mono ?_
    rintro e w' ⟨N, rfl, _, _, hb⟩
    exact ⟨hb, .inr ⟨_, _, _, (fun v hv => by rw [h] at hv; cases hv), rfl⟩⟩
theorem str_ne {a b : ByteArray} (h : a ≠ b) : (a.toList == b.toList) = false := by
  cases hq : a.toList == b.toList with
  | false => rfl
  | true =>
    exfalso
    apply h
    have : a.toList = b.toList := by simpa using hq
    rw [ByteArray.toList_eq, ByteArray.toList_eq] at this
    exact ByteArray.ext (Array.toList_inj.1 this)
def NumRet (w : World) (S : ByteArray) (e : Ending) (w' : World) : Prop :=
  Ext w w' ∧ ((∃ n : Nat, Tape.rdNum (numsT S) = some n ∧ e = .returned (.tuple #[.int .i64 (n : Int), .bool true])) ∨ (∃ x, Tape.rdNum (numsT S) = none ∧ e = .returned (.tuple #[.int .i64 x, .bool false])))
theorem num_no {S : ByteArray} (h : ∀ v, Lib.atoiAll S.data.toList ≠ .ok v) : Tape.rdNum (numsT S) = none := by
  rcases hr : Tape.rdNum (numsT S) with _ | n
  · rfl
  · exfalso
    have h2 := hr
    unfold Tape.rdNum at h2
    split at h2
    · rename_i q
      injection h2 with h2
      rw [h2] at q
      exact h _ (atoi_dec q.1 q.2)
    · cases h2
theorem num_neg {S : ByteArray} {v : Int} (h : Lib.atoiAll S.data.toList = .ok v) (hv : v < 0) : Tape.rdNum (numsT S) = none := by
  rcases hr : Tape.rdNum (numsT S) with _ | n
  · rfl
  · exfalso
    have h2 := hr
    unfold Tape.rdNum at h2
    split at h2
    · rename_i q
      injection h2 with h2
      rw [h2] at q
      have := atoi_dec q.1 q.2
      rw [h] at this
      injection this
      omega
    · cases h2
theorem num_other {S : ByteArray} {v : Int} (h : Lib.atoiAll S.data.toList = .ok v) (_hv : 0 ≤ v) (hne : strOfNums (Acc.signed v) ≠ S) : Tape.rdNum (numsT S) = none := by
  rcases hr : Tape.rdNum (numsT S) with _ | n
  · rfl
  · exfalso
    have h2 := hr
    unfold Tape.rdNum at h2
    split at h2
    · rename_i q
      injection h2 with h2
      rw [h2] at q
      have := atoi_dec q.1 q.2
      rw [h] at this
      injection this with this
      apply hne
      rw [this]
      unfold Acc.signed
      rw [if_neg (by omega), Int.toNat_natCast, ← q.1, str_numsT]
    · cases h2
theorem readNumber_c (S : ByteArray) (w : World) (hl : S.size ≤ 5000) (ht : TabT w) : Calls Tryd.prog 91 #[.string S] w (NumRet w S) := by
  have HA := Lib.hid (atoi_c S w hl ht)
  have HT := Lib.hid ht
  clear hl ht
  go_enter Tryd.func91, Tryd.ntmps91
  go_wp2_with fail
  refine HA.out.mono ?_
  rintro e w1 ⟨hx1, h⟩
  have HX1 := Lib.hid hx1
  clear hx1
  rcases h with ⟨v, hv, rfl⟩ | ⟨x, T, p, hno, rfl⟩
  · have HV := Lib.hid hv
    have hb := Lib.atoiAll_bounds hv
    obtain ⟨b0, b1⟩ := hb
    clear hv
    by_cases h0 : 0 ≤ v
    · have HI := Lib.hid (itoa_c v w1 b0 b1 (HT.out.ext HX1.out).t)
      have HBK : Hid (strOfNums (Acc.signed v) = S → Tape.rdNum (numsT S) = some v.toNat) := Lib.hid (fun he => atoi_back HV.out h0 he)
      have HNO : Hid (strOfNums (Acc.signed v) ≠ S → Tape.rdNum (numsT S) = none) := Lib.hid (fun he => num_other HV.out h0 he)
      by_cases he : strOfNums (Acc.signed v) = S
      · have hn := HBK.out he
        have HN := Lib.hid hn
        rw [he] at HI
        have h00 : v = ((v.toNat : Nat) : Int) := by omega
        have H00 := Lib.hid h00
        clear he hn HBK HNO HV h00
        go_wp2_with (go_at_call 60; refine HI.out.mono ?_; rintro e w2 ⟨rfl, hx2⟩)
        go_ret2
        exact ⟨HX1.out.trans hx2, .inl ⟨_, HN.out, (by rw [← H00.out]; rfl)⟩⟩
      · have hn := HNO.out he
        have HN := Lib.hid hn
        have hbq : ((strOfNums (Acc.signed v)).toList == S.toList) = false := str_ne he
        clear he hn HBK HNO HV
        generalize strOfNums (Acc.signed v) = Z at *
        go_wp2_with (go_at_call 60; refine HI.out.mono ?_; rintro e w2 ⟨rfl, hx2⟩)
        go_ret2
        exact ⟨HX1.out.trans hx2, .inr ⟨_, HN.out, rfl⟩⟩
    · have HN := Lib.hid (num_neg HV.out (by omega))
      clear HV
      go_wp2_with fail
      go_ret2
      exact ⟨HX1.out, .inr ⟨_, HN.out, rfl⟩⟩
  · have HN := Lib.hid (num_no hno)
    clear hno
    go_wp2_with fail
    go_ret2
    exact ⟨HX1.out, .inr ⟨_, HN.out, rfl⟩⟩
end Go.Proofs.YtbaahbpianingaaDoor
