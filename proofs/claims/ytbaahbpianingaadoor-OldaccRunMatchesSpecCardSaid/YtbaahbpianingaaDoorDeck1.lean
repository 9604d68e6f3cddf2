import Derived.Test.YtbaahbpianingaaDoorStartB
namespace Go.Proofs.YtbaahbpianingaaDoor
open Go Go.Proofs Go.RowKit
open Acc (Dk red five)
set_option maxHeartbeats 4000000
set_option maxRecDepth 100000
def SRetS (w : World) (s : ByteArray) (e : Ending) (w' : World) : Prop := e = .returned (.string s) ∧ Ext w w'
def strLen (v : Value) : Nat := match v with | .string b => b.size | _ => 0
theorem signed_nat (n : Nat) : Acc.signed (n : Int) = Acc.dec n := by
  unfold Acc.signed
  rw [if_neg (by omega)]
  rfl
theorem zero_more (b : ByteArray) (l : List Int) (h : strOfNums l = b) : (⟨#[48]⟩ : ByteArray) ++ b = strOfNums (48 :: l) := by
  rw [← h]
  exact strOfNums_append [48] l
theorem digits_c (n k : Nat) (w : World) (hn : n < 10 ^ 5) (hk : k ≤ 10) (ht : Tabs w) : Calls Tryd.prog 75 #[.int .i64 (n : Int), .int .i64 (k : Int)] w (SRetS w (strOfNums (Acc.pad k (Acc.dec n)))) := by
  have hd := Acc.dec_len (n := n) (k := 5) (by omega) hn
  have HI := Lib.hid (itoa_c (n : Int) w (by omega) (by omega) ht)
  rw [signed_nat] at HI
  unfold Acc.pad
  generalize Acc.dec n = d at *
  clear ht
  obtain ⟨K, hK⟩ : ∃ K : Int, (k : Int) = K := ⟨_, rfl⟩
  go_enter Tryd.func75, Tryd.ntmps75
  go_wp2_with (go_at_call 60; refine HI.out.mono ?_; rintro e w1 ⟨rfl, hx⟩)
  have HX := Lib.hid hx
  clear hx
  go_loop [5] (fun s => ∃ j : Nat, ∃ b, s = .string b ∧ Hid (strOfNums (List.replicate j 48 ++ d) = b) ∧ (j = 0 ∨ j + d.length ≤ k) ∧ b.size = j + d.length) (fun s => k - strLen s)
  case atStart => exact ⟨0, _, rfl, Lib.hid rfl, .inl rfl, by rw [strOfNums_size]; simp⟩
  case round =>
    obtain ⟨j, b, rfl, hb, hj, hs⟩ := hrel
    have HS := Lib.hid hs
    have hs1 : b.size ≤ 20 := by omega
    by_cases hlt : b.size < k
    · have HZ := Lib.hid (zero_more b _ hb.out)
      clear hs
      go_wp2
      go_round
      case rel =>
        have hr : strOfNums (List.replicate (j + 1) 48 ++ d) = (⟨#[48]⟩ : ByteArray) ++ b := by rw [HZ.out, List.replicate_succ, List.cons_append]
        have hs3 := HS.out
        refine ⟨j + 1, _, rfl, Lib.hid hr, .inr ?_, ?_⟩
        · omega
        · rw [HZ.out, strOfNums_size]; simp; omega
      case measure =>
        have hs3 : ((⟨#[48]⟩ : ByteArray) ++ b).size = b.size + 1 := by rw [HZ.out, strOfNums_size]; have := HS.out; simp; omega
        show k - ((⟨#[48]⟩ : ByteArray) ++ b).size < k - b.size
        omega
    · have HR : Hid (b = strOfNums (List.replicate (k - d.length) 48 ++ d)) := Lib.hid (by rw [← hb.out]; congr 3; omega)
      clear hs
      go_wp2
      go_ret
      exact ⟨ret_str HR.out, HX.out⟩
theorem sz_pad (k n : Nat) (hk : 1 ≤ k) (hn : n < 10 ^ k) : (strOfNums (Acc.pad k (Acc.dec n))).size = k := by
  rw [strOfNums_size, Acc.pad_dec hk hn, Acc.fix_len]
theorem card_c (i : Nat) (v : Int) (w : World) (hi : i < 100) (hv : five v = true) (ht : Tabs w) (h8 : 2 ≤ w.heap.size) : Calls Tryd.prog 47 #[.int .i64 (i : Int), .int .i64 v] w (SRetS w (strOfNums (Acc.cardF i v))) := by
  have h5 := Acc.five_iff.1 hv
  have HD := Lib.hid (fun (W : World) (hx : Ext w W) => digits_c i 2 W (by omega) (by omega) (ht.below hx h8))
  have HE := Lib.hid (fun (W : World) (hx : Ext w W) => digits_c v.natAbs 5 W (by omega) (by omega) (ht.below hx h8))
  have s2 := sz_pad 2 i (by omega) (by omega)
  have s5 := sz_pad 5 v.natAbs (by omega) (by omega)
  unfold Acc.cardF
  clear ht
  by_cases hn : v < 0
  · obtain ⟨m, rfl⟩ : ∃ m : Nat, v = -(m : Int) := ⟨v.natAbs, by omega⟩
    rw [if_pos hn]
    have e : (-(m : Int)).natAbs = m := by omega
    rw [e] at HE s5 ⊢
    have HF : Hid (strOfNums (Acc.pad 2 (Acc.dec i)) ++ (⟨#[32]⟩ : ByteArray) ++ (⟨#[45]⟩ : ByteArray) ++ strOfNums (Acc.pad 5 (Acc.dec m)) ++ (⟨#[10]⟩ : ByteArray) = strOfNums (Acc.pad 2 (Acc.dec i) ++ [32, 45] ++ Acc.pad 5 (Acc.dec m) ++ [10])) := Lib.hid (by
      have e1 : (⟨#[32]⟩ : ByteArray) = strOfNums [32] := rfl
      have e2 : (⟨#[45]⟩ : ByteArray) = strOfNums [45] := rfl
      have e3 : (⟨#[10]⟩ : ByteArray) = strOfNums [10] := rfl
      rw [e1, e2, e3]; simp only [strOfNums_append, List.append_assoc, List.cons_append, List.nil_append])
    clear e
    generalize strOfNums (Acc.pad 2 (Acc.dec i)) = A at *
    generalize strOfNums (Acc.pad 5 (Acc.dec m)) = B at *
    go_enter Tryd.func47, Tryd.ntmps47
    go_wp2_with fail
    refine (HD.out _ (Ext.refl _)).mono ?_
    rintro e w1 ⟨rfl, hx1⟩
    have HX1 := Lib.hid hx1
    clear hx1
    go_wp2_with fail
    rw [show max (-(m : Int)) (m : Int) = m by omega]
    refine (HE.out _ HX1.out).mono ?_
    rintro e w2 ⟨rfl, hx2⟩
    have HX2 := Lib.hid (HX1.out.trans hx2)
    clear hx2
    go_wp2_with fail
    go_ret
    exact ⟨ret_str HF.out, HX2.out⟩
  · obtain ⟨m, rfl⟩ : ∃ m : Nat, v = (m : Int) := ⟨v.natAbs, by omega⟩
    rw [if_neg hn]
    have e : (m : Int).natAbs = m := by omega
    rw [e] at HE s5 ⊢
    have HF : Hid (strOfNums (Acc.pad 2 (Acc.dec i)) ++ (⟨#[32]⟩ : ByteArray) ++ (⟨#[43]⟩ : ByteArray) ++ strOfNums (Acc.pad 5 (Acc.dec m)) ++ (⟨#[10]⟩ : ByteArray) = strOfNums (Acc.pad 2 (Acc.dec i) ++ [32, 43] ++ Acc.pad 5 (Acc.dec m) ++ [10])) := Lib.hid (by
      have e1 : (⟨#[32]⟩ : ByteArray) = strOfNums [32] := rfl
      have e2 : (⟨#[43]⟩ : ByteArray) = strOfNums [43] := rfl
      have e3 : (⟨#[10]⟩ : ByteArray) = strOfNums [10] := rfl
      rw [e1, e2, e3]; simp only [strOfNums_append, List.append_assoc, List.cons_append, List.nil_append])
    clear e
    generalize strOfNums (Acc.pad 2 (Acc.dec i)) = A at *
    generalize strOfNums (Acc.pad 5 (Acc.dec m)) = B at *
    go_enter Tryd.func47, Tryd.ntmps47
    go_wp2_with fail
    refine (HD.out _ (Ext.refl _)).mono ?_
    rintro e w1 ⟨rfl, hx1⟩
    have HX1 := Lib.hid hx1
    clear hx1
    go_wp2_with fail
    rw [show max (m : Int) (-(m : Int)) = m by omega]
    refine (HE.out _ HX1.out).mono ?_
    rintro e w2 ⟨rfl, hx2⟩
    have HX2 := Lib.hid (HX1.out.trans hx2)
    clear hx2
    go_wp2_with fail
    go_ret
    exact ⟨ret_str HF.out, HX2.out⟩
end Go.Proofs.YtbaahbpianingaaDoor
