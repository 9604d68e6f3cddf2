import Derived.Test.YtbaahbpianingaaDoorEff3
import Derived.Test.YtbaahbpianingaaDoorShelf
import Derived.Lib.AppendIntMem
import Derived.Lib.AppendStr
namespace Go.Proofs.YtbaahbpianingaaDoor
open Go Go.Proofs Go.RowKit
open Acc (Dk red five)
set_option maxHeartbeats 4000000
set_option maxRecDepth 100000
/-- The table that strconv.Itoa reads, whatever is done from the blocks of the call on. -/
def Tabs (w : World) : Prop := Lib.TabBelow Tryd.prog 2 w "internal/strconv.uint64pow10" .u64 Lib.pow10Tab
theorem Tabs.below {w w' : World} {B : Nat} (h : Tabs w) (hb : Below B w w') (h8 : 2 ≤ B) : Tabs w' := Lib.TabBelow.on h (Below.mono hb h8)
theorem grow_ext (w : World) (k : Nat) (os : Array Obj) : Ext w (Sort.grow (w.drewN k) os) := by
  refine ⟨rfl, rfl, rfl, by simp [Sort.grow], fun b hb => ?_⟩
  show (w.heap ++ os)[b]? = w.heap[b]?
  rw [Array.getElem?_append_left hb]
theorem itoa_c (n : Int) (w : World) (h0 : -9223372036854775808 ≤ n) (h1 : n ≤ 9223372036854775807) (ht : Tabs w) :
    Calls Tryd.prog 60 #[.int .i64 n] w fun e w' => e = .returned (.string (strOfNums (Acc.signed n))) ∧ Ext w w' := by
  refine (Tryd.strconv_Itoa n h0 h1 w (Lib.TabBelow.here ht)).mono ?_
  rintro e w' ⟨rfl, k, os, rfl⟩
  rw [Acc.itoa_signed]
  exact ⟨rfl, grow_ext w k os⟩
theorem strOfNums_append (l m : List Int) : strOfNums l ++ strOfNums m = strOfNums (l ++ m) := by
  apply ByteArray.ext
  apply Array.toList_inj.1
  rw [ByteArray.data_append, Array.toList_append, strOfNums_data, strOfNums_data, strOfNums_data, List.map_append]
theorem strOfNums_nl : (⟨#[10]⟩ : ByteArray) = strOfNums [10] := rfl
theorem strOfNums_size (l : List Int) : (strOfNums l).size = l.length := by
  show (strOfNums l).data.size = _
  rw [← Array.length_toList, strOfNums_data]; simp
theorem signed_len {n : Int} (h : five n = true) : (Acc.signed n).length ≤ 6 := by
  have h1 := Acc.five_iff.1 h
  unfold Acc.signed
  split
  · have := Acc.dec_len (n := (-n).toNat) (k := 5) (by omega) (by omega)
    simp; omega
  · have := Acc.dec_len (n := n.toNat) (k := 5) (by omega) (by omega)
    omega
theorem line_len {n : Int} (h : five n = true) : (Acc.lineF n).length ≤ 7 := by
  have := signed_len h
  unfold Acc.lineF
  simp; omega
theorem ret_str {a b : ByteArray} (h : a = b) : Ending.returned (.string a) = .returned (.string b) := by rw [h]
section
variable {w : World} {bm g : Nat} {s : Dk} {cs : Array Value} {vo : Value}
theorem line_c (h : MachIs w bm s cs vo) (hf : five s.a = true) (ht : Tabs w) :
    Calls Tryd.prog 68 #[.pointer (some ⟨bm, 0, none⟩)] w fun e w' => e = .returned (.string (strOfNums (Acc.lineF s.a))) ∧ Ext w w' := by
  have k1 := h.cA
  have a1 := Acc.five_iff.1 hf
  have HI := Lib.hid (itoa_c s.a w (by omega) (by omega) ht)
  have hlt := h.lt
  have he : strOfNums (Acc.signed s.a) ++ (⟨#[10]⟩ : ByteArray) = strOfNums (Acc.lineF s.a) := by rw [strOfNums_nl, strOfNums_append]; rfl
  have HE := Lib.hid he
  have hsl := signed_len hf
  have hsz : (strOfNums (Acc.signed s.a)).size ≤ 6 := by rw [strOfNums_size]; exact hsl
  clear hsl
  clear h ht he a1 hf
  go_enter Tryd.func68, Tryd.ntmps68
  go_wp2_with (go_at_call 60; refine HI.out.mono ?_; rintro e w' ⟨rfl, hx⟩)
  go_ret
  exact ⟨ret_str HE.out, hx⟩
end
end Go.Proofs.YtbaahbpianingaaDoor
