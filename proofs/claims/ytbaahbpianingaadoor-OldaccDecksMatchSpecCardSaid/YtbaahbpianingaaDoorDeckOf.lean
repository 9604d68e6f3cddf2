import Derived.Test.YtbaahbpianingaaDoorDeck4
import Derived.Test.YtbaahbpianingaaDoorDeck5
namespace Go.Proofs.YtbaahbpianingaaDoor
open Go Go.Proofs Go.RowKit
open Acc (Dk red five)
set_option maxHeartbeats 4000000
set_option maxRecDepth 100000
/-- What may stand at a place of a card. -/
def okAt (j : Nat) (x : Int) : Bool :=
  if j = 2 then decide (x = 32) else if j = 3 then decide (x = 43) || decide (x = 45) else if j = 9 then decide (x = 10) else Acc.digB x
def fineC (c : List Int) (k : Nat) : Prop := ∀ j x, j < k → c[j]? = some x → okAt j x = true
theorem fineC_succ {c : List Int} {k : Nat} {x : Int} (h : fineC c k) (hx : c[k]? = some x) (ho : okAt k x = true) : fineC c (k + 1) := by
  intro j y hj hy
  by_cases e : j = k
  · subst e; rw [hx] at hy; cases hy; exact ho
  · exact h j y (by omega) hy
theorem all_of {l : List Int} (h : ∀ (j : Nat) (x : Int), l[j]? = some x → Acc.digB x = true) : l.all Acc.digB = true := by
  rw [List.all_eq_true]
  intro x hx
  obtain ⟨j, hj, rfl⟩ := List.mem_iff_getElem.1 hx
  exact h j _ (List.getElem?_eq_getElem hj)
theorem fine_at {c : List Int} {j k : Nat} {x : Int} (h : fineC c k) (hj : j < k) (hx : c[j]? = some x) : okAt j x = true := h j x hj hx
theorem dig_at {j : Nat} {x : Int} (h : okAt j x = true) (h2 : j ≠ 2) (h3 : j ≠ 3) (h9 : j ≠ 9) : Acc.digB x = true := by
  unfold okAt at h; rw [if_neg h2, if_neg h3, if_neg h9] at h; exact h
theorem card_yes {c : List Int} (hl : c.length = 10) (h : fineC c 10) {x3 : Int} (h3 : c[3]? = some x3) : Acc.readCard c = some (Acc.numF (c.take 2), if x3 = 45 then -(Acc.numF ((c.drop 4).take 5) : Int) else (Acc.numF ((c.drop 4).take 5) : Int)) := by
  obtain ⟨y2, y3, y9, k⟩ := card_by hl
  have e : y3 = x3 := by have := k.h3; rw [h3] at this; cases this; rfl
  subst e
  rw [readCard_by k, if_pos]
  have o2 := h 2 y2 (by omega) k.h2
  have o3 := h 3 y3 (by omega) k.h3
  have o9 := h 9 y9 (by omega) k.h9
  simp only [okAt] at o2 o3 o9
  refine ⟨all_of fun j x hx => ?_, by simpa using o2, by simpa using o3, all_of fun j x hx => ?_, by simpa using o9⟩
  · have hj : j < 2 := by
      have := (List.getElem?_eq_some_iff.1 hx).1
      rw [List.length_take] at this; omega
    rw [List.getElem?_take, if_pos hj] at hx
    exact dig_at (h j x (by omega) hx) (by omega) (by omega) (by omega)
  · have hj : j < 5 := by
      have := (List.getElem?_eq_some_iff.1 hx).1
      rw [List.length_take] at this; omega
    rw [List.getElem?_take, if_pos hj, List.getElem?_drop] at hx
    exact dig_at (h (4 + j) x (by omega) hx) (by omega) (by omega) (by omega)
theorem card_no {c : List Int} {j : Nat} {x : Int} (hj : j < 10) (hx : c[j]? = some x) (ho : okAt j x = false) : Acc.readCard c = none := by
  by_cases hl : c.length = 10
  · obtain ⟨y2, y3, y9, k⟩ := card_by hl
    rw [readCard_by k, if_neg]
    rintro ⟨h1, h2, h3, h4, h5⟩
    rw [List.all_eq_true] at h1 h4
    subst h2 h5
    have key : okAt j x = true := by
      unfold okAt
      by_cases e2 : j = 2
      · subst e2; have := k.h2; rw [hx] at this; cases this; rfl
      rw [if_neg e2]
      by_cases e3 : j = 3
      · subst e3; have := k.h3; rw [hx] at this; cases this; rw [if_pos rfl]; simpa using h3
      rw [if_neg e3]
      by_cases e9 : j = 9
      · subst e9; have := k.h9; rw [hx] at this; cases this; rfl
      rw [if_neg e9]
      by_cases hlow : j < 2
      · exact h1 x (List.mem_iff_getElem?.2 ⟨j, by rw [List.getElem?_take, if_pos hlow]; exact hx⟩)
      · exact h4 x (List.mem_iff_getElem?.2 ⟨j - 4, by rw [List.getElem?_take, if_pos (by omega), List.getElem?_drop, show 4 + (j - 4) = j by omega]; exact hx⟩)
    rw [key] at ho
    cases ho
  · exact readCard_len hl
theorem num_next {l : List Int} {j : Nat} {x : Int} (h : l[j]? = some x) : Acc.numF (l.take (j + 1)) = 10 * Acc.numF (l.take j) + (x - 48).toNat := by
  have hj := (List.getElem?_eq_some_iff.1 h)
  rw [List.take_succ_eq_append_getElem hj.1, hj.2, Acc.numF_snoc]
theorem num_small {l : List Int} (h : l.all Acc.digB = true) (k : Nat) (hk : l.length ≤ k) : Acc.numF l < 10 ^ k := Nat.lt_of_lt_of_le (Acc.num_lt l h) (Nat.pow_le_pow_right (by omega) hk)
/-- The numbers that have been read ahead of place k. -/
structure CdIs (c : List Int) (k : Nat) (A N : Nat) : Prop where
  fine : fineC c k
  a : Acc.numF (c.take (min k 2)) = A
  n : Acc.numF ((c.drop 4).take (min (k - 4) 5)) = N
  al : A < 10 ^ 2
  nl : N < 10 ^ 5
theorem cd_low {c : List Int} {k A N : Nat} {x : Int} (h : CdIs c k A N) (hk : k < 2) (hx : c[k]? = some x) (hd : Acc.digB x = true) : CdIs c (k + 1) (10 * A + (x - 48).toNat) N := by
  have hf : fineC c (k + 1) := fineC_succ h.fine hx (by unfold okAt; rw [if_neg (by omega), if_neg (by omega), if_neg (by omega)]; exact hd)
  have ha : Acc.numF (c.take (min (k + 1) 2)) = 10 * A + (x - 48).toNat := by
    have h1 := h.a
    rw [Nat.min_eq_left (by omega)] at h1 ⊢
    rw [num_next hx, h1]
  refine ⟨hf, ha, ?_, ?_, h.nl⟩
  · have := h.n
    rw [show k - 4 = 0 by omega] at this
    rw [show k + 1 - 4 = 0 by omega]
    exact this
  · rw [← ha]
    refine num_small (all_of fun j y hy => ?_) 2 (by rw [List.length_take]; omega)
    have hj := (List.getElem?_eq_some_iff.1 hy).1
    rw [List.length_take] at hj
    rw [List.getElem?_take, if_pos (by omega)] at hy
    exact dig_at (hf j y (by omega) hy) (by omega) (by omega) (by omega)
theorem cd_high {c : List Int} {k A N : Nat} {x : Int} (h : CdIs c k A N) (hk : 4 ≤ k) (hk9 : k < 9) (hx : c[k]? = some x) (hd : Acc.digB x = true) : CdIs c (k + 1) A (10 * N + (x - 48).toNat) := by
  have hf : fineC c (k + 1) := fineC_succ h.fine hx (by unfold okAt; rw [if_neg (by omega), if_neg (by omega), if_neg (by omega)]; exact hd)
  have hx2 : (c.drop 4)[k - 4]? = some x := by rw [List.getElem?_drop, show 4 + (k - 4) = k by omega]; exact hx
  have hn : Acc.numF ((c.drop 4).take (min (k + 1 - 4) 5)) = 10 * N + (x - 48).toNat := by
    have h1 := h.n
    rw [Nat.min_eq_left (by omega)] at h1 ⊢
    rw [show k + 1 - 4 = (k - 4) + 1 by omega, num_next hx2, h1]
  refine ⟨hf, ?_, hn, h.al, ?_⟩
  · have := h.a
    rw [show min k 2 = 2 by omega] at this
    rw [show min (k + 1) 2 = 2 by omega]
    exact this
  · rw [← hn]
    refine num_small (all_of fun j y hy => ?_) 5 (by rw [List.length_take]; omega)
    have hj := (List.getElem?_eq_some_iff.1 hy).1
    rw [List.length_take] at hj
    rw [List.getElem?_take, if_pos (by omega), List.getElem?_drop] at hy
    exact dig_at (hf (4 + j) y (by omega) hy) (by omega) (by omega) (by omega)
theorem cd_mid {c : List Int} {k A N : Nat} {x : Int} (h : CdIs c k A N) (hk : k = 2 ∨ k = 3 ∨ k = 9) (hx : c[k]? = some x) (ho : okAt k x = true) : CdIs c (k + 1) A N := by
  refine ⟨fineC_succ h.fine hx ho, ?_, ?_, h.al, h.nl⟩
  · have := h.a
    rw [show min k 2 = 2 by omega] at this
    rw [show min (k + 1) 2 = 2 by omega]
    exact this
  · have := h.n
    rcases hk with rfl | rfl | rfl
    · exact this
    · exact this
    · exact this
theorem cd0 (c : List Int) : CdIs c 0 0 0 := ⟨fun j x hj => by omega, rfl, rfl, by decide, by decide⟩
theorem cardOf_len_c (c : List Int) (w : World) (h : c.length ≠ 10) (hl : c.length ≤ 10) : Calls Tryd.prog 49 #[.string (strOfNums c)] w (RC w c) := by
  have HR := Lib.hid (readCard_len h)
  have hs := strOfNums_size c
  have hs2 : (strOfNums c).size ≤ 9 := by omega
  have hn : (((strOfNums c).size : Int) != 10) = true := by simp; omega
  clear hs
  generalize strOfNums c = S at *
  go_enter Tryd.func49, Tryd.ntmps49
  go_wp2
  go_ret3
  exact rc_none HR.out (Ext.refl _)
theorem cardOf_c (c : List Int) (w : World) (hb : Byt c) (hlen : c.length ≤ 10) : Calls Tryd.prog 49 #[.string (strOfNums c)] w (RC w c) := by
  by_cases hl : c.length = 10
  rotate_left
  · exact cardOf_len_c c w hl hlen
  obtain ⟨S, hS⟩ : ∃ S, S = strOfNums c := ⟨_, rfl⟩
  have hsz : S.size = 10 := by rw [hS, strOfNums_size]; exact hl
  have HC := Lib.hid (fun (j : Nat) (hj : j < 10) (hj2 : j < S.size) => (⟨c[j], ⟨List.getElem?_eq_getElem (by omega), hb _ (List.getElem_mem _)⟩, by subst hS; exact nums_idx hb (List.getElem?_eq_getElem (by omega)) _⟩ : ∃ x : Int, (c[j]? = some x ∧ 0 ≤ x ∧ x < 256) ∧ (((S[j]'hj2).toNat : Int) = x)))
  have HL := Lib.hid hl
  rw [← hS]
  clear hS hb hlen hl
  go_enter Tryd.func49, Tryd.ntmps49
  go_wp2
  go_loopw [5, 6, 7] (fun t5 t6 t7 wx => ∃ k A N : Nat, k ≤ 10 ∧ t7 = .int .i64 k ∧ t5 = .int .i64 A ∧ t6 = .int .i64 N ∧ CdIs c k A N ∧ Ext w wx) (fun _ _ t7 _ => 10 - (intOf t7).toNat)
  case atStart => exact ⟨0, 0, 0, by omega, rfl, rfl, rfl, cd0 c, Ext.refl w⟩
  case round =>
    obtain ⟨k, A, N, hk, rfl, rfl, rfl, hcd, hx⟩ := hrel
    have HXR := Lib.hid hx
    clear hx
    have hA := hcd.al
    have hN := hcd.nl
    have HCD := Lib.hid hcd
    clear hcd
    by_cases hlt : k < 10
    · obtain ⟨x, ⟨hx, hx0, hx1⟩, hxs⟩ := HC.out k hlt (by omega)
      have HX := Lib.hid hx
      clear hx
      rcases (by omega : k = 0 ∨ k = 1 ∨ k = 2 ∨ k = 3 ∨ k = 4 ∨ k = 5 ∨ k = 6 ∨ k = 7 ∨ k = 8 ∨ k = 9) with rfl | rfl | rfl | rfl | rfl | rfl | rfl | rfl | rfl | rfl
      · -- place 0
        have fk : (((⟨#[100, 100, 32, 115, 100, 100, 100, 100, 100, 10]⟩ : ByteArray)[0]'(by decide)).toNat : Int) = 100 := by rfl
        cases hin : inB x 48 57 with
        | false =>
          have HO : Hid (okAt 0 x = false) := Lib.hid hin
          go_wp2_with (go_at_call 22; refine (In_c _ _ _ _).mono ?_; rintro e w' ⟨rfl, rfl⟩; rw [hin])
          go_quiet (fail)
          go_wp2
          go_ret3
          exact rc_none (card_no (by omega) HX.out HO.out) (HXR.out.drewN _)
        | true =>
          have HD : Hid (Acc.digB x = true) := Lib.hid hin
          have hb := Acc.dig_iff.1 HD.out
          go_wp2_with (go_at_call 22; refine (In_c _ _ _ _).mono ?_; rintro e w' ⟨rfl, rfl⟩; rw [hin])
          go_quiet (fail)
          go_wp2
          go_roundw
          case rel => exact ⟨1, 10 * A + (x - 48).toNat, N, by omega, rfl, by go_num, rfl, cd_low HCD.out (by omega) HX.out HD.out, HXR.out.drewN _⟩
          case measure => simp [intOf]
      · -- place 1
        have fk : (((⟨#[100, 100, 32, 115, 100, 100, 100, 100, 100, 10]⟩ : ByteArray)[1]'(by decide)).toNat : Int) = 100 := by rfl
        cases hin : inB x 48 57 with
        | false =>
          have HO : Hid (okAt 1 x = false) := Lib.hid hin
          go_wp2_with (go_at_call 22; refine (In_c _ _ _ _).mono ?_; rintro e w' ⟨rfl, rfl⟩; rw [hin])
          go_quiet (fail)
          go_wp2
          go_ret3
          exact rc_none (card_no (by omega) HX.out HO.out) (HXR.out.drewN _)
        | true =>
          have HD : Hid (Acc.digB x = true) := Lib.hid hin
          have hb := Acc.dig_iff.1 HD.out
          go_wp2_with (go_at_call 22; refine (In_c _ _ _ _).mono ?_; rintro e w' ⟨rfl, rfl⟩; rw [hin])
          go_quiet (fail)
          go_wp2
          go_roundw
          case rel => exact ⟨2, 10 * A + (x - 48).toNat, N, by omega, rfl, by go_num, rfl, cd_low HCD.out (by omega) HX.out HD.out, HXR.out.drewN _⟩
          case measure => simp [intOf]
      · -- place 2
        have fk : (((⟨#[100, 100, 32, 115, 100, 100, 100, 100, 100, 10]⟩ : ByteArray)[2]'(by decide)).toNat : Int) = 32 := by rfl
        obtain ⟨b, hin⟩ : ∃ b, inB x 48 57 = b := ⟨_, rfl⟩
        by_cases q : x = 32
        · subst q
          all_goals
            clear hin
            have hin : inB 32 48 57 = false := by decide
            go_wp2_with (go_at_call 22; refine (In_c _ _ _ _).mono ?_; rintro e w' ⟨rfl, rfl⟩; rw [hin])
            go_quiet (fail)
            go_wp2
            go_roundw
            case rel => exact ⟨3, A, N, by omega, rfl, rfl, rfl, cd_mid HCD.out (by omega) HX.out (by decide), HXR.out.drewN _⟩
            case measure => simp [intOf]
        · have HO : Hid (okAt 2 x = false) := Lib.hid (by simp only [okAt]; simp; omega)
          have a0 : (x == 32) = false := by simp; omega
          have b0 : (x != 32) = true := by simp; omega
          clear q
          go_wp2_with (go_at_call 22; refine (In_c _ _ _ _).mono ?_; rintro e w' ⟨rfl, rfl⟩; rw [hin])
          go_quiet (fail)
          go_wp2
          go_ret3
          exact rc_none (card_no (by omega) HX.out HO.out) (HXR.out.drewN _)
      · -- place 3
        have fk : (((⟨#[100, 100, 32, 115, 100, 100, 100, 100, 100, 10]⟩ : ByteArray)[3]'(by decide)).toNat : Int) = 115 := by rfl
        obtain ⟨b, hin⟩ : ∃ b, inB x 48 57 = b := ⟨_, rfl⟩
        by_cases q : x = 43 ∨ x = 45
        · rcases q with rfl | rfl
          all_goals
            clear hin
            go_wp2_with (go_at_call 22; refine (In_c _ _ _ _).mono ?_; rintro e w' ⟨rfl, rfl⟩; simp only [show inB 43 48 57 = false from rfl, show inB 45 48 57 = false from rfl])
            go_quiet (fail)
            go_wp2
            go_roundw
            case rel => exact ⟨4, A, N, by omega, rfl, rfl, rfl, cd_mid HCD.out (by omega) HX.out (by decide), HXR.out.drewN _⟩
            case measure => simp [intOf]
        · have HO : Hid (okAt 3 x = false) := Lib.hid (by simp only [okAt]; simp; omega)
          have a0 : (x == 43) = false := by simp; omega
          have b0 : (x != 43) = true := by simp; omega
          have a1 : (x == 45) = false := by simp; omega
          have b1 : (x != 45) = true := by simp; omega
          clear q
          go_wp2_with (go_at_call 22; refine (In_c _ _ _ _).mono ?_; rintro e w' ⟨rfl, rfl⟩; rw [hin])
          go_quiet (fail)
          go_wp2
          go_ret3
          exact rc_none (card_no (by omega) HX.out HO.out) (HXR.out.drewN _)
      · -- place 4
        have fk : (((⟨#[100, 100, 32, 115, 100, 100, 100, 100, 100, 10]⟩ : ByteArray)[4]'(by decide)).toNat : Int) = 100 := by rfl
        cases hin : inB x 48 57 with
        | false =>
          have HO : Hid (okAt 4 x = false) := Lib.hid hin
          go_wp2_with (go_at_call 22; refine (In_c _ _ _ _).mono ?_; rintro e w' ⟨rfl, rfl⟩; rw [hin])
          go_quiet (fail)
          go_wp2
          go_ret3
          exact rc_none (card_no (by omega) HX.out HO.out) (HXR.out.drewN _)
        | true =>
          have HD : Hid (Acc.digB x = true) := Lib.hid hin
          have hb := Acc.dig_iff.1 HD.out
          go_wp2_with (go_at_call 22; refine (In_c _ _ _ _).mono ?_; rintro e w' ⟨rfl, rfl⟩; rw [hin])
          go_quiet (fail)
          go_wp2
          go_roundw
          case rel => exact ⟨5, A, 10 * N + (x - 48).toNat, by omega, rfl, rfl, by go_num, cd_high HCD.out (by omega) (by omega) HX.out HD.out, HXR.out.drewN _⟩
          case measure => simp [intOf]
      · -- place 5
        have fk : (((⟨#[100, 100, 32, 115, 100, 100, 100, 100, 100, 10]⟩ : ByteArray)[5]'(by decide)).toNat : Int) = 100 := by rfl
        cases hin : inB x 48 57 with
        | false =>
          have HO : Hid (okAt 5 x = false) := Lib.hid hin
          go_wp2_with (go_at_call 22; refine (In_c _ _ _ _).mono ?_; rintro e w' ⟨rfl, rfl⟩; rw [hin])
          go_quiet (fail)
          go_wp2
          go_ret3
          exact rc_none (card_no (by omega) HX.out HO.out) (HXR.out.drewN _)
        | true =>
          have HD : Hid (Acc.digB x = true) := Lib.hid hin
          have hb := Acc.dig_iff.1 HD.out
          go_wp2_with (go_at_call 22; refine (In_c _ _ _ _).mono ?_; rintro e w' ⟨rfl, rfl⟩; rw [hin])
          go_quiet (fail)
          go_wp2
          go_roundw
          case rel => exact ⟨6, A, 10 * N + (x - 48).toNat, by omega, rfl, rfl, by go_num, cd_high HCD.out (by omega) (by omega) HX.out HD.out, HXR.out.drewN _⟩
          case measure => simp [intOf]
      · -- place 6
        have fk : (((⟨#[100, 100, 32, 115, 100, 100, 100, 100, 100, 10]⟩ : ByteArray)[6]'(by decide)).toNat : Int) = 100 := by rfl
        cases hin : inB x 48 57 with
        | false =>
          have HO : Hid (okAt 6 x = false) := Lib.hid hin
          go_wp2_with (go_at_call 22; refine (In_c _ _ _ _).mono ?_; rintro e w' ⟨rfl, rfl⟩; rw [hin])
          go_quiet (fail)
          go_wp2
          go_ret3
          exact rc_none (card_no (by omega) HX.out HO.out) (HXR.out.drewN _)
        | true =>
          have HD : Hid (Acc.digB x = true) := Lib.hid hin
          have hb := Acc.dig_iff.1 HD.out
          go_wp2_with (go_at_call 22; refine (In_c _ _ _ _).mono ?_; rintro e w' ⟨rfl, rfl⟩; rw [hin])
          go_quiet (fail)
          go_wp2
          go_roundw
          case rel => exact ⟨7, A, 10 * N + (x - 48).toNat, by omega, rfl, rfl, by go_num, cd_high HCD.out (by omega) (by omega) HX.out HD.out, HXR.out.drewN _⟩
          case measure => simp [intOf]
      · -- place 7
        have fk : (((⟨#[100, 100, 32, 115, 100, 100, 100, 100, 100, 10]⟩ : ByteArray)[7]'(by decide)).toNat : Int) = 100 := by rfl
        cases hin : inB x 48 57 with
        | false =>
          have HO : Hid (okAt 7 x = false) := Lib.hid hin
          go_wp2_with (go_at_call 22; refine (In_c _ _ _ _).mono ?_; rintro e w' ⟨rfl, rfl⟩; rw [hin])
          go_quiet (fail)
          go_wp2
          go_ret3
          exact rc_none (card_no (by omega) HX.out HO.out) (HXR.out.drewN _)
        | true =>
          have HD : Hid (Acc.digB x = true) := Lib.hid hin
          have hb := Acc.dig_iff.1 HD.out
          go_wp2_with (go_at_call 22; refine (In_c _ _ _ _).mono ?_; rintro e w' ⟨rfl, rfl⟩; rw [hin])
          go_quiet (fail)
          go_wp2
          go_roundw
          case rel => exact ⟨8, A, 10 * N + (x - 48).toNat, by omega, rfl, rfl, by go_num, cd_high HCD.out (by omega) (by omega) HX.out HD.out, HXR.out.drewN _⟩
          case measure => simp [intOf]
      · -- place 8
        have fk : (((⟨#[100, 100, 32, 115, 100, 100, 100, 100, 100, 10]⟩ : ByteArray)[8]'(by decide)).toNat : Int) = 100 := by rfl
        cases hin : inB x 48 57 with
        | false =>
          have HO : Hid (okAt 8 x = false) := Lib.hid hin
          go_wp2_with (go_at_call 22; refine (In_c _ _ _ _).mono ?_; rintro e w' ⟨rfl, rfl⟩; rw [hin])
          go_quiet (fail)
          go_wp2
          go_ret3
          exact rc_none (card_no (by omega) HX.out HO.out) (HXR.out.drewN _)
        | true =>
          have HD : Hid (Acc.digB x = true) := Lib.hid hin
          have hb := Acc.dig_iff.1 HD.out
          go_wp2_with (go_at_call 22; refine (In_c _ _ _ _).mono ?_; rintro e w' ⟨rfl, rfl⟩; rw [hin])
          go_quiet (fail)
          go_wp2
          go_roundw
          case rel => exact ⟨9, A, 10 * N + (x - 48).toNat, by omega, rfl, rfl, by go_num, cd_high HCD.out (by omega) (by omega) HX.out HD.out, HXR.out.drewN _⟩
          case measure => simp [intOf]
      · -- place 9
        have fk : (((⟨#[100, 100, 32, 115, 100, 100, 100, 100, 100, 10]⟩ : ByteArray)[9]'(by decide)).toNat : Int) = 10 := by rfl
        obtain ⟨b, hin⟩ : ∃ b, inB x 48 57 = b := ⟨_, rfl⟩
        by_cases q : x = 10
        · subst q
          all_goals
            clear hin
            have hin : inB 10 48 57 = false := by decide
            go_wp2_with (go_at_call 22; refine (In_c _ _ _ _).mono ?_; rintro e w' ⟨rfl, rfl⟩; rw [hin])
            go_quiet (fail)
            go_wp2
            go_roundw
            case rel => exact ⟨10, A, N, by omega, rfl, rfl, rfl, cd_mid HCD.out (by omega) HX.out (by decide), HXR.out.drewN _⟩
            case measure => simp [intOf]
        · have HO : Hid (okAt 9 x = false) := Lib.hid (by simp only [okAt]; simp; omega)
          have a0 : (x == 10) = false := by simp; omega
          have b0 : (x != 10) = true := by simp; omega
          clear q
          go_wp2_with (go_at_call 22; refine (In_c _ _ _ _).mono ?_; rintro e w' ⟨rfl, rfl⟩; rw [hin])
          go_quiet (fail)
          go_wp2
          go_ret3
          exact rc_none (card_no (by omega) HX.out HO.out) (HXR.out.drewN _)
    · obtain rfl : k = 10 := by omega
      obtain ⟨x3, ⟨hx3, hy0, hy1⟩, hs3⟩ := HC.out 3 (by omega) (by omega)
      have HY := Lib.hid (card_yes HL.out HCD.out.fine hx3)
      have e1 : Acc.numF (c.take 2) = A := HCD.out.a
      have e2 : Acc.numF ((c.drop 4).take 5) = N := HCD.out.n
      rw [e1, e2] at HY
      clear e1 e2 hx3 hlt hk
      by_cases q : x3 = 45
      · subst q
        go_wp2
        go_ret3
        exact rc_some HY.out rfl (by simp) HXR.out
      · have q1 : (x3 == 45) = false := by simpa using q
        have HQ := Lib.hid q
        clear q
        go_wp2
        go_ret3
        exact rc_some HY.out rfl (by rw [if_neg HQ.out]) HXR.out
end Go.Proofs.YtbaahbpianingaaDoor
namespace Go.Proofs.YtbaahbpianingaaDoor
open Go Go.Proofs Go.RowKit
open Acc (Dk red five)
set_option maxHeartbeats 4000000
set_option maxRecDepth 100000
theorem chunk_hi {t : List Int} {S : ByteArray} {n : Nat} (i : Nat) (hS : S = strOfNums t) (hn : n = t.length) (h : 10 * i + 10 ≤ n) : S.extract (10 * i) (10 * i + 10) = strOfNums ((t.drop (10 * i)).take 10) := by
  subst hS hn
  rw [extract_nums, show 10 * i + 10 - 10 * i = 10 by omega]
theorem chunk_lo {t : List Int} {S : ByteArray} {n : Nat} (i : Nat) (hS : S = strOfNums t) (hn : n = t.length) (h : n < 10 * i + 10) : S.extract (10 * i) n = strOfNums ((t.drop (10 * i)).take 10) := by
  subst hS hn
  rw [extract_nums]
  congr 1
  rw [List.take_of_length_le (by rw [List.length_drop]; omega), List.take_of_length_le (by rw [List.length_drop]; omega)]
theorem deckOf_long (t : List Int) (w : World) (hl : t.length ≤ maxLen) (h : 1000 < t.length) : Calls Tryd.prog 25 #[.string (strOfNums t)] w (DRet w (Acc.readDeck t)) := by
  have he : Acc.readDeck t = ([], (3, -1)) := by unfold Acc.readDeck; rw [if_pos h]
  rw [he]
  have hs : 1000 < (strOfNums t).size := by rw [strOfNums_size]; exact h
  have hs2 : (strOfNums t).size ≤ maxLen := by rw [strOfNums_size]; exact hl
  unfold maxLen at hs2
  clear he h hl
  generalize strOfNums t = S at *
  go_enter Tryd.func25, Tryd.ntmps25
  go_wp2_with (go_at_call 14; refine (At_c _ _ _).mono ?_; rintro e w' ⟨rfl, rfl⟩)
  refine bodyPost_ret (results_tc Tryd.results25 _ _ w.heap.size 28 #[.int .i64 3, .int .i64 (-1)] (0, 0) _ rfl (heap_alloc2_old w _ _) Tryd.underlying28 rfl sizeF) rfl (dret_nil (((Ext.refl w).alloc _).alloc _))
theorem deckOf_all (t : List Int) (w : World) (hb : Byt t) (h : t.length ≤ 1000) : Calls Tryd.prog 25 #[.string (strOfNums t)] w (DRet w (Acc.readDeck t)) := by
  have he : Acc.readDeck t = Acc.readGo 0 (-1) Acc.zeros t := by unfold Acc.readDeck; rw [if_neg (by omega)]
  rw [he]
  obtain ⟨R, hR⟩ : ∃ R, Acc.readGo 0 (-1) Acc.zeros t = R := ⟨_, rfl⟩
  rw [hR]
  have HR := Lib.hid hR
  obtain ⟨S, hS⟩ : ∃ S, S = strOfNums t := ⟨_, rfl⟩
  obtain ⟨n, hn⟩ : ∃ n, n = t.length := ⟨_, rfl⟩
  have hsz : S.size = n := by rw [hS, strOfNums_size, hn]
  have hn1 : n ≤ 1000 := by omega
  have HS := Lib.hid hS
  have HN := Lib.hid hn
  have HB := Lib.hid hb
  have HM := Lib.hid (fun W => run_make100 W)
  have hmk := run_make100 (w.alloc (.cells #[.int .i64 0, .int .i64 0] 28))
  rw [← hS]
  clear he hR hS hn hb h
  have HZ := Lib.hid hsz
  go_enter Tryd.func25, Tryd.ntmps25
  go_wp2
  go_loopw [5, 6] (fun t5 t6 wx => ∃ i : Nat, ∃ last : Int, ∃ out, t6 = .int .i64 i ∧ t5 = .int .i64 last ∧ i ≤ 101 ∧ -1 ≤ last ∧ last ≤ 99 ∧ RdIs w wx S t R n i last out) (fun _ t6 _ => 200 - (intOf t6).toNat)
  case atStart => exact ⟨0, -1, Acc.zeros, rfl, rfl, by omega, by omega, by omega, rdIs0 (by rw [List.drop_zero]; exact HR.out)⟩
  case round =>
    obtain ⟨i, last, out, rfl, rfl, hi, hl1, hl2, hrd⟩ := hrel
    have HRD := Lib.hid hrd
    clear hrd
    by_cases hlt : 10 * i < n
    · have hch : (10 * i + 10 ≤ n ∧ S.extract (10 * i) (10 * i + 10) = strOfNums ((t.drop (10 * i)).take 10)) ∨ (n < 10 * i + 10 ∧ S.extract (10 * i) n = strOfNums ((t.drop (10 * i)).take 10)) := by
        by_cases q : 10 * i + 10 ≤ n
        · exact .inl ⟨q, chunk_hi i HS.out HN.out q⟩
        · exact .inr ⟨by omega, chunk_lo i HS.out HN.out (by omega)⟩
      have HGO := Lib.hid (HRD.out.go)
      have HNE : Hid (t.drop (10 * i) ≠ []) := Lib.hid (fun q => by have := congrArg List.length q; rw [List.length_drop, ← HN.out] at this; simp at this; omega)
      rcases hch with ⟨hen, hex⟩ | ⟨hen, hex⟩
      all_goals
        have HEX := Lib.hid hex
        clear hex
        go_wp2_with fail
        rw [HEX.out]
        refine (cardOf_c _ wr (fun x hx => HB.out x (List.mem_of_mem_drop (List.mem_of_mem_take hx))) (by rw [List.length_take]; omega)).mono ?_
        rintro e w2 ⟨hx2, hcase⟩
        have HFL := Lib.hid (ext_heap hx2 HRD.out.flt)
        have HRO := Lib.hid (ext_heap hx2 HRD.out.row)
        have HX2 := Lib.hid (HRD.out.x.trans hx2)
        have hb2 := Blk2.mk' HFL.out
        obtain ⟨c0, c1, f0, f1⟩ := hb2
        have hlt2 : w.heap.size + 1 < w2.heap.size := (Array.getElem?_eq_some_iff.1 HRO.out).1
        have hlt3 : w.heap.size < w2.heap.size := by omega
        clear hx2
        rcases hcase with ⟨a, v, hrc, rfl⟩ | ⟨hrc, a, v, rfl⟩
        · have HRC := Lib.hid hrc
          clear hrc
          by_cases hv : v = 0
          · subst hv
            have HRE : Hid (([], ((6 : Int), (i : Int))) = R) := Lib.hid (by rw [← HGO.out, readGo_step HNE.out, HRC.out]; simp)
            go_wp2_with (go_at_call 14; refine (At_c _ _ _).mono ?_; rintro e w' ⟨rfl, rfl⟩)
            refine bodyPost_ret (results_tc Tryd.results25 _ _ w.heap.size 28 #[.int .i64 6, .int .i64 (i : Int)] (0, 0) _ rfl (by first | exact fblk_fin (c := 6) (i := (i : Int)) HFL.out _ | exact fblk_set (c := 6) (i := (i : Int)) HFL.out) Tryd.underlying28 rfl sizeF) rfl (dret_nil2 HRE.out (by first | exact Ext.alloc (ext_set2 HX2.out (Nat.le_refl _) (.int .i64 6) (.int .i64 (i : Int))) _ | exact ext_set2 HX2.out (Nat.le_refl _) (.int .i64 6) (.int .i64 (i : Int))))
          · have q1 : (v == 0) = false := by simpa using hv
            obtain ⟨-, ha1, hv5⟩ := Acc.card_readCard HRC.out hv
            have HV := Lib.hid hv
            clear hv
            by_cases hle : (a : Int) ≤ last
            · have HRE : Hid (([], ((11 : Int), (i : Int))) = R) := Lib.hid (by rw [← HGO.out, readGo_step HNE.out, HRC.out]; simp only; rw [if_neg HV.out, if_pos hle])
              go_wp2_with (go_at_call 14; refine (At_c _ _ _).mono ?_; rintro e w' ⟨rfl, rfl⟩)
              refine bodyPost_ret (results_tc Tryd.results25 _ _ w.heap.size 28 #[.int .i64 11, .int .i64 (i : Int)] (0, 0) _ rfl (by first | exact fblk_fin (c := 11) (i := (i : Int)) HFL.out _ | exact fblk_set (c := 11) (i := (i : Int)) HFL.out) Tryd.underlying28 rfl sizeF) rfl (dret_nil2 HRE.out (by first | exact Ext.alloc (ext_set2 HX2.out (Nat.le_refl _) (.int .i64 11) (.int .i64 (i : Int))) _ | exact ext_set2 HX2.out (Nat.le_refl _) (.int .i64 11) (.int .i64 (i : Int))))
            · have HRE : Hid (Acc.readGo (i + 1) a (out.set a v) (t.drop (10 * (i + 1))) = R) := Lib.hid (by rw [← HGO.out, readGo_step HNE.out, HRC.out]; simp only; rw [if_neg HV.out, if_neg hle, List.drop_drop]; rfl)
              have HN2 := Lib.hid (rd_next HRD.out.len ha1 HRO.out HFL.out HX2.out HRE.out (S := S) (n := n))
              obtain ⟨y, hy⟩ : ∃ y, w2.cell? ⟨w.heap.size + 1, a, none⟩ = some (.int .i64 y) := by rw [blk_cell HRO.out]; exact row_at HRD.out.len ha1
              have fy := blk_frozen HRO.out a
              have i0 : (0 : Int) ≤ (a : Int) := by omega
              have i1 : (a : Int) < 100 := by omega
              go_wp2_with fail
              go_roundw
              case rel => exact ⟨i + 1, a, out.set a v, by go_num, rfl, by omega, by omega, by omega, HN2.out⟩
              case measure => simp [intOf]; omega
        · have HRE : Hid (([], ((1 : Int), (i : Int))) = R) := Lib.hid (by rw [← HGO.out, readGo_step HNE.out, hrc])
          clear hrc
          go_wp2_with (go_at_call 14; refine (At_c _ _ _).mono ?_; rintro e w' ⟨rfl, rfl⟩)
          refine bodyPost_ret (results_tc Tryd.results25 _ _ w.heap.size 28 #[.int .i64 1, .int .i64 (i : Int)] (0, 0) _ rfl (by first | exact fblk_fin (c := 1) (i := (i : Int)) HFL.out _ | exact fblk_set (c := 1) (i := (i : Int)) HFL.out) Tryd.underlying28 rfl sizeF) rfl (dret_nil2 HRE.out (by first | exact Ext.alloc (ext_set2 HX2.out (Nat.le_refl _) (.int .i64 1) (.int .i64 (i : Int))) _ | exact ext_set2 HX2.out (Nat.le_refl _) (.int .i64 1) (.int .i64 (i : Int))))
    · have HRE : Hid ((out, ((0 : Int), (0 : Int))) = R) := Lib.hid (by rw [← HRD.out.go, List.drop_eq_nil_of_le (by rw [← HN.out]; omega), Acc.readGo_nil])
      have HFL := Lib.hid HRD.out.flt
      have hb2 := Blk2.mk' HFL.out
      obtain ⟨c0, c1, f0, f1⟩ := hb2
      have hlt2 : w.heap.size + 1 < wr.heap.size := (Array.getElem?_eq_some_iff.1 HRD.out.row).1
      have hlt3 : w.heap.size < wr.heap.size := by omega
      go_wp2_with fail
      refine bodyPost_ret (results_tc Tryd.results25 _ _ w.heap.size 28 #[.int .i64 0, .int .i64 0] (0, 0) _ rfl (fblk_set HFL.out) Tryd.underlying28 rfl sizeF) rfl (dret_row2 HRE.out HRD.out.len HRD.out.row (ext_set2 HRD.out.x (Nat.le_refl _) _ _))
end Go.Proofs.YtbaahbpianingaaDoor
