import Derived.Test.YtbaahbpianingaaDoorValidD
import Derived.Deep.QuietTactic
import Derived.BigQuiet
namespace Go.Proofs.YtbaahbpianingaaDoor
open Go Go.Proofs Go.RowKit
open Acc (Dk red five)
set_option maxHeartbeats 1600000
set_option maxRecDepth 100000
theorem SameBytes_c (A B : Option Addr) (l m : List Int) (c d : Nat) (w : World) (h1 : Sl w .u8 A l) (h2 : Sl w .u8 B m) (b1 : Byt l) (b2 : Byt m) :
    Calls Tryd.prog 43 #[.slice A l.length c, .slice B m.length d] w fun e w' => e = .returned (.bool (decide (l = m))) ∧ w = w' := by
  have k1 := h1.conv 23 5 9 Tryd.underlying23 Tryd.underlying5 Tryd.underlying9 c
  have k2 := h2.conv 23 5 9 Tryd.underlying23 Tryd.underlying5 Tryd.underlying9 d
  have HB := Lib.hid (strOfNums_beq b1 b2)
  clear h1 h2
  go_enter Tryd.func43, Tryd.ntmps43
  go_wp2
  go_ret
  exact ⟨ret_bool HB.out, rfl⟩
def eqTo (l m : List Int) (k : Nat) : Prop := l.take k = m.take k
theorem eqTo_succ {l m : List Int} {k : Nat} (h : eqTo l m k) (h1 : k < l.length) (h2 : k < m.length) (he : l[k]?.getD 0 = m[k]?.getD 0) : eqTo l m (k + 1) := by
  rw [List.getElem?_eq_getElem h1, List.getElem?_eq_getElem h2] at he
  simp only [Option.getD_some] at he
  unfold eqTo at *
  rw [List.take_succ_eq_append_getElem h1, List.take_succ_eq_append_getElem h2, h, he]
theorem eqTo_no {l m : List Int} {k : Nat} (he : l[k]?.getD 0 ≠ m[k]?.getD 0) : decide (l = m) = false := by
  rw [decide_eq_false_iff_not]; rintro rfl; exact he rfl
theorem eqTo_all {l m : List Int} {k : Nat} (h : eqTo l m k) (h1 : l.length ≤ k) (h2 : m.length ≤ k) : decide (l = m) = true := by
  unfold eqTo at h
  rw [List.take_of_length_le h1, List.take_of_length_le h2] at h
  simpa using h
theorem Ints_c (A B : Option Addr) (l m : List Int) (c d : Nat) (w : World) (hl : l.length ≤ maxLen) (hm : m.length ≤ maxLen) (h1 : Sl w .i64 A l) (h2 : Sl w .i64 B m) :
    Calls Tryd.prog 26 #[.slice A l.length c, .slice B m.length d] w fun e w' => e = .returned (.bool (decide (l = m))) ∧ ∃ n, w' = w.drewN n := by
  unfold maxLen at hl hm
  by_cases hn : l.length = m.length
  · obtain ⟨q, hq⟩ : ∃ q, q = l.length := ⟨_, rfl⟩
    rw [← hq] at hl
    rw [← hn, ← hq]
    have HQ := Lib.hid hq
    have HN := Lib.hid hn
    clear hq hn hm
    go_enter Tryd.func26, Tryd.ntmps26
    go_wp2
    go_loopw [5] (fun i wr => ∃ k : Nat, ∃ n : Nat, k ≤ q ∧ i = .int .i64 k ∧ eqTo l m k ∧ wr = w.drewN n) (fun i _ => q - (intOf i).toNat)
    case atStart => exact ⟨0, 0, Nat.zero_le _, rfl, rfl, rfl⟩
    case round =>
      obtain ⟨k, n, hk, rfl, hr, rfl⟩ := hrel
      by_cases hlt : k < q
      · have hkl : k < l.length := by rw [← HQ.out]; exact hlt
        have hkm : k < m.length := by rw [← HN.out, ← HQ.out]; exact hlt
        obtain ⟨b, o, rfl, ha⟩ := h1.at_ hkl
        obtain ⟨b', o', rfl, hb⟩ := h2.at_ hkm
        have HK := Lib.hid hkl
        have HM := Lib.hid hkm
        clear hkl hkm
        go_wp2
        go_quiet (fail)
        go_wp2
        · go_ret
          rename_i hne
          exact ⟨ret_bool (eqTo_no (by simpa using hne)).symm, _, World.drewN_drewN _ _ _⟩
        · rename_i hne
          refine ⟨⟨k + 1, _, by omega, by go_num, eqTo_succ hr HK.out HM.out (by simpa using hne), rfl⟩, by simp [intOf]; omega⟩
      · go_wp2
        go_ret
        exact ⟨ret_bool (eqTo_all hr (by rw [← HQ.out]; omega) (by rw [← HN.out, ← HQ.out]; omega)).symm, _, rfl⟩
  · have hd : ((l.length : Int) != (m.length : Int)) = true := by simp; omega
    have HN := Lib.hid hn
    clear hn
    go_enter Tryd.func26, Tryd.ntmps26
    go_wp2
    go_ret
    exact ⟨ret_bool (by simp; rintro rfl; exact HN.out rfl), 0, rfl⟩
theorem WordsFault_c (A : Option Addr) (l : List Int) (c : Nat) (w : World) (hl : l.length ≤ maxLen) (h1 : Sl w .i64 A l) : Calls Tryd.prog 13 #[.slice A l.length c] w (FRet w (faultW l)) := by
  unfold maxLen at hl
  obtain ⟨q, hq⟩ : ∃ q, q = l.length := ⟨_, rfl⟩
  rw [← hq] at hl ⊢
  have HQ := Lib.hid hq
  clear hq
  by_cases h2 : 100 < q
  · have hf : (2, -1) = faultW l := by unfold faultW; rw [if_pos (by rw [← HQ.out]; exact h2)]
    have HF := Lib.hid hf
    clear hf
    go_enter Tryd.func13, Tryd.ntmps13
    go_wp2_with (go_at_call 14; refine (At_c _ _ _).mono ?_; rintro e w' ⟨rfl, rfl⟩)
    exact bodyPost_ret (v := fAgg (2, -1)) (by simp [results, Tryd.results13, go_sem, fAgg]) rfl (FRet.mk HF.out (by repeat (first | exact Ext.refl _ | apply Ext.alloc)))
  · have hf : ∀ k : Nat, k ≤ q → fineTo l k → (q ≤ k → (0, 0) = faultW l) ∧ (∀ y, l[k]? = some y → five y = false → (4, (k : Int)) = faultW l) := by
      intro k hkq hk
      unfold faultW; rw [if_neg (by rw [← HQ.out]; omega)]
      exact ⟨fun h => by rw [badI_none hk (by rw [← HQ.out]; omega), if_neg (by decide)], fun y h h' => by rw [badI_some hk h h', if_pos (by omega)]⟩
    have HF := Lib.hid hf
    clear hf
    go_enter Tryd.func13, Tryd.ntmps13
    go_wp2
    go_loop [3] (fun i => ∃ k : Nat, k ≤ q ∧ i = .int .i64 k ∧ fineTo l k) (fun i => q - (intOf i).toNat)
    case atStart => exact ⟨0, Nat.zero_le _, rfl, fun i x hi => by omega⟩
    case round =>
      obtain ⟨k, hk, rfl, hr⟩ := hrel
      have HR := Lib.hid hr
      clear hr
      by_cases hlt : k < q
      · have hkl : k < l.length := by rw [← HQ.out]; exact hlt
        obtain ⟨b, o, y, rfl, hy, ha⟩ := h1.at2 hkl
        clear hkl
        have hblt := World.block_lt_of_cell? w _ ha
        cases hb : five y with
        | false =>
          go_wp2_with (first | (go_at_call 42; refine (five_c _ _).mono ?_; rintro e w' ⟨rfl, rfl⟩; rw [hb]) | (go_at_call 14; refine (At_c _ _ _).mono ?_; rintro e w' ⟨rfl, rfl⟩))
          exact bodyPost_ret (v := fAgg (4, k)) (by simp [results, Tryd.results13, go_sem, fAgg]) rfl (FRet.mk ((HF.out k (by omega) HR.out).2 y hy.out hb) (by repeat (first | exact Ext.refl _ | apply Ext.alloc)))
        | true =>
          go_wp2_with (go_at_call 42; refine (five_c _ _).mono ?_; rintro e w' ⟨rfl, rfl⟩; rw [hb])
          refine ⟨⟨k + 1, by omega, by go_num, fineTo_succ HR.out hy.out hb⟩, by simp [intOf]; omega⟩
      · go_wp2
        exact bodyPost_ret (v := fAgg (0, 0)) (by simp [results, Tryd.results13, go_sem, fAgg]) rfl (FRet.mk ((HF.out k (by omega) HR.out).1 (by omega)) (by repeat (first | exact Ext.refl _ | apply Ext.alloc)))
end Go.Proofs.YtbaahbpianingaaDoor
