import Derived.Test.YtbaahbpianingaaDoorDeck2
import Derived.Lib.ConvBytes
import Derived.Lib.AtoiErrMem
namespace Go.Proofs.YtbaahbpianingaaDoor
open Go Go.Proofs Go.RowKit
open Acc (Dk red five)
set_option maxHeartbeats 4000000
set_option maxRecDepth 100000
/-- What number returns. -/
def numR (l : List Int) : Value := .tuple #[.int .i64 (if l.all Acc.digB = true then (Acc.numF l : Int) else 0), .bool (l.all Acc.digB)]
def NRet (w : World) (l : List Int) (e : Ending) (w' : World) : Prop := e = .returned (numR l) ∧ Ext w w'
theorem nums_getD {l : List Int} (h : Byt l) {j : Nat} {x : Int} (hx : l[j]? = some x) : (((strOfNums l).data.toList.getD j 0).toNat : Int) = x := by
  have h1 := h x (List.mem_of_getElem? hx)
  rw [strOfNums_data, List.getD_eq_getElem?_getD, List.getElem?_map, hx]
  show ((UInt8.ofNat x.toNat).toNat : Int) = x
  rw [UInt8.toNat_ofNat']
  omega
theorem num_take {l : List Int} {k : Nat} {x : Int} (h : l[k]? = some x) : Acc.numF (l.take (k + 1)) = 10 * Acc.numF (l.take k) + (x - 48).toNat := by
  rw [List.take_add_one, h, Option.toList_some, Acc.numF_snoc]
theorem all_take {l : List Int} {k : Nat} {x : Int} (h : l[k]? = some x) (ha : (l.take k).all Acc.digB = true) : (l.take (k + 1)).all Acc.digB = Acc.digB x := by
  rw [List.take_add_one, h, Option.toList_some, List.all_append, ha]; simp
theorem all_false {l : List Int} {k : Nat} {x : Int} (h : l[k]? = some x) (hd : Acc.digB x = false) : l.all Acc.digB = false := by
  rw [List.all_eq_false]
  exact ⟨x, List.mem_of_getElem? h, by simpa using hd⟩
theorem number_c (l : List Int) (w : World) (hb : Byt l) (hl : l.length ≤ 10) : Calls Tryd.prog 76 #[.string (strOfNums l)] w (NRet w l) := by
  have hcv0 := Lib.run_convert_string_bytes (P := Tryd.prog) w 9 23 5 (strOfNums l) Tryd.underlying9 Tryd.underlying23 Tryd.underlying5
  have hx0 : Ext w (Lib.bytesWorld w 5 (strOfNums l)) := Lib.bytesWorld_below w 5 (strOfNums l)
  have hc0 : ∀ j x, l[j]? = some x → (Lib.bytesWorld w 5 (strOfNums l)).cell? ⟨w.heap.size, j, none⟩ = some (.int .u8 x) := fun j x hx => by
    have hj := (List.getElem?_eq_some_iff.1 hx).1
    rw [Lib.bytesWorld_cell _ _ _ _ (by rw [strOfNums_size]; exact hj), nums_getD hb hx]
  rw [strOfNums_size] at hcv0
  obtain ⟨wb, hwb⟩ : ∃ wb, wb = Lib.bytesWorld w 5 (strOfNums l) := ⟨_, rfl⟩
  obtain ⟨C, hC⟩ : ∃ C, C = grownCap w l.length 0 5 := ⟨_, rfl⟩
  rw [← hwb, ← hC] at hcv0
  rw [← hwb] at hx0 hc0
  have HX := Lib.hid hx0
  have HC0 := Lib.hid hc0
  have HB := Lib.hid hb
  have hlt : w.heap.size ≤ wb.heap.size := hx0.size
  clear hwb hC hx0 hc0 hb
  obtain ⟨n, hn⟩ : ∃ n, l.length = n := ⟨_, rfl⟩
  have HN := Lib.hid hn
  rw [hn] at hl hcv0
  clear hn
  have HCV := Lib.hid hcv0
  generalize strOfNums l = S at *
  go_enter Tryd.func76, Tryd.ntmps76
  go_wp2
  go_loop [4, 10] (fun t4 t10 => ∃ k : Nat, ∃ m : Nat, k ≤ n ∧ t10 = .int .i64 k ∧ t4 = .int .i64 (m : Int) ∧ Hid (m = Acc.numF (l.take k)) ∧ m < 10 ^ 10 ∧ Hid ((l.take k).all Acc.digB = true)) (fun _ t10 => n - (intOf t10).toNat)
  case atStart => exact ⟨0, 0, Nat.zero_le _, rfl, rfl, Lib.hid rfl, by decide, Lib.hid rfl⟩
  case round =>
    obtain ⟨k, m, hk, rfl, rfl, hm, hml, ha⟩ := hrel
    clear HCV hcv0
    by_cases hlt2 : k < n
    · obtain ⟨x, hx⟩ : ∃ x, l[k]? = some x := ⟨_, List.getElem?_eq_getElem (by rw [HN.out]; exact hlt2)⟩
      have hc := HC0.out k x hx
      have hb8 := HB.out x (List.mem_of_getElem? hx)
      have HXK := Lib.hid hx
      clear hx
      cases hd : Acc.digB x with
      | true =>
        have hd2 := Acc.dig_iff.1 hd
        have HNT := Lib.hid (num_take HXK.out)
        have HAT := Lib.hid (all_take HXK.out ha.out)
        have HLT := Lib.hid (Acc.num_lt (l.take (k + 1)) (by rw [all_take HXK.out ha.out]; exact hd))
        have t1 : decide (x < 48) = false := by simp; omega
        have t2 : decide (57 < x) = false := by simp; omega
        clear hd
        go_wp2
        go_round
        case rel =>
          have hm3 : 10 * m + (x - 48).toNat = Acc.numF (l.take (k + 1)) := by rw [HNT.out, hm.out]
          have hp : 10 ^ (l.take (k + 1)).length ≤ 10 ^ 10 := Nat.pow_le_pow_right (by omega) (by rw [List.length_take]; omega)
          have hq := HLT.out
          refine ⟨k + 1, 10 * m + (x - 48).toNat, by omega, by go_num, ?_, Lib.hid hm3, by omega, Lib.hid (by rw [HAT.out]; exact Acc.dig_iff.2 hd2)⟩
          congr 1
          omega
        case measure => simp [intOf]; omega
      | false =>
        have hd2 : x < 48 ∨ 57 < x := by
          have : ¬ (48 ≤ x ∧ x ≤ 57) := fun q => by rw [Acc.dig_iff.2 q] at hd; cases hd
          omega
        have HAF := Lib.hid (all_false HXK.out hd)
        have HR : Hid (numR l = .tuple #[.int .i64 0, .bool false]) := Lib.hid (by unfold numR; rw [HAF.out, if_neg (by decide)])
        clear hd
        by_cases h1 : x < 48
        · have t1 : decide (x < 48) = true := by simpa using h1
          go_wp2
          go_ret2
          exact ⟨congrArg Ending.returned HR.out.symm, HX.out⟩
        · have t1 : decide (x < 48) = false := by simpa using h1
          have t2 : decide (57 < x) = true := by simp; omega
          go_wp2
          go_ret2
          exact ⟨congrArg Ending.returned HR.out.symm, HX.out⟩
    · have hkn : k = n := by omega
      have HR : Hid (numR l = .tuple #[.int .i64 (m : Int), .bool true]) := Lib.hid (by
        have ha2 := ha.out
        have hm2 := hm.out
        rw [hkn, ← HN.out, List.take_length] at ha2 hm2
        unfold numR
        rw [ha2, if_pos rfl, hm2])
      clear hkn
      go_wp2
      go_ret2
      exact ⟨congrArg Ending.returned HR.out.symm, HX.out⟩
end Go.Proofs.YtbaahbpianingaaDoor
