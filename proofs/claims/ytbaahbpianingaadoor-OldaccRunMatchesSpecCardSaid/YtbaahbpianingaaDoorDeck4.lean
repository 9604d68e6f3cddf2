import Derived.Test.YtbaahbpianingaaDoorDeck3
namespace Go.Proofs.YtbaahbpianingaaDoor
open Go Go.Proofs Go.RowKit
open Acc (Dk red five)
set_option maxHeartbeats 4000000
set_option maxRecDepth 100000
/-- What readCard returns. -/
def RC (w : World) (c : List Int) (e : Ending) (w' : World) : Prop :=
  Ext w w' ∧ ((∃ (a : Nat) (v : Int), Acc.readCard c = some (a, v) ∧ e = .returned (.tuple #[.int .i64 (a : Int), .int .i64 v, .bool true])) ∨ (Acc.readCard c = none ∧ ∃ a v : Int, e = .returned (.tuple #[.int .i64 a, .int .i64 v, .bool false])))
theorem rc_none {w w' : World} {c : List Int} {a v : Int} (h : Acc.readCard c = none) (hx : Ext w w') : RC w c (.returned (.tuple #[.int .i64 a, .int .i64 v, .bool false])) w' := ⟨hx, .inr ⟨h, a, v, rfl⟩⟩
theorem rc_some {w w' : World} {c : List Int} {A : Nat} {a v V : Int} (h : Acc.readCard c = some (A, V)) (h1 : a = (A : Int)) (h2 : v = V) (hx : Ext w w') : RC w c (.returned (.tuple #[.int .i64 a, .int .i64 v, .bool true])) w' := ⟨hx, .inl ⟨A, V, h, by rw [h1, h2]⟩⟩
theorem nums_idx {l : List Int} (hb : Byt l) {j : Nat} {x : Int} (hx : l[j]? = some x) (h : j < (strOfNums l).size) : (((strOfNums l)[j]'h).toNat : Int) = x := by
  have h1 := nums_getD hb hx
  have hj : j < (strOfNums l).data.toList.length := by rw [Array.length_toList]; exact h
  rw [List.getD_eq_getElem?_getD, List.getElem?_eq_getElem hj] at h1
  exact h1
theorem extract_nums (l : List Int) (a b : Nat) : (strOfNums l).extract a b = strOfNums ((l.drop a).take (b - a)) := by
  apply ByteArray.ext
  apply Array.toList_inj.1
  rw [ByteArray.data_extract, Array.toList_extract, strOfNums_data, strOfNums_data]
  simp [List.extract_eq_take_drop, List.map_take, List.map_drop]
theorem readCard_len {c : List Int} (h : c.length ≠ 10) : Acc.readCard c = none := by
  unfold Acc.readCard
  rw [if_neg (fun q => h q.1)]
theorem readCard_len_c (c : List Int) (w : World) (h : c.length ≠ 10) (hl : c.length ≤ 10) : Calls Tryd.prog 48 #[.string (strOfNums c)] w (RC w c) := by
  have HR := Lib.hid (readCard_len h)
  have hs := strOfNums_size c
  have hs2 : (strOfNums c).size ≤ 9 := by omega
  have hn : (((strOfNums c).size : Int) != 10) = true := by simp; omega
  clear hs
  generalize strOfNums c = S at *
  go_enter Tryd.func48, Tryd.ntmps48
  go_wp2
  go_ret3
  exact rc_none HR.out (Ext.refl _)
theorem num_form (l : List Int) : ∃ (a : Int) (d : Bool), numR l = .tuple #[.int .i64 a, .bool d] ∧ d = l.all Acc.digB ∧ (d = true → a = Acc.numF l) ∧ (d = false → a = 0) :=
  ⟨_, _, rfl, rfl, fun h => by rw [if_pos h], fun h => by rw [if_neg (by rw [h]; decide)]⟩
/-- The numbers of a card, and its signs. -/
structure CardBy (c : List Int) (x2 x3 x9 : Int) : Prop where
  len : c.length = 10
  h2 : c[2]? = some x2
  h3 : c[3]? = some x3
  h9 : c[9]? = some x9
theorem card_by {c : List Int} (h : c.length = 10) : ∃ x2 x3 x9, CardBy c x2 x3 x9 :=
  ⟨c[2], c[3], c[9], h, List.getElem?_eq_getElem (by omega), List.getElem?_eq_getElem (by omega), List.getElem?_eq_getElem (by omega)⟩
theorem readCard_by {c : List Int} {x2 x3 x9 : Int} (k : CardBy c x2 x3 x9) : Acc.readCard c =
    if (c.take 2).all Acc.digB = true ∧ x2 = 32 ∧ (x3 = 43 ∨ x3 = 45) ∧ ((c.drop 4).take 5).all Acc.digB = true ∧ x9 = 10 then
      some (Acc.numF (c.take 2), if x3 = 45 then -(Acc.numF ((c.drop 4).take 5) : Int) else (Acc.numF ((c.drop 4).take 5) : Int)) else none := by
  unfold Acc.readCard
  rw [k.h2, k.h3, k.h9]
  simp only [Option.some.injEq, k.len, true_and]
theorem readCard_form_c (c : List Int) (w : World) (hb : Byt c) {x2 x3 x9 : Int} (k : CardBy c x2 x3 x9) (h : ¬ (x2 = 32 ∧ (x3 = 43 ∨ x3 = 45) ∧ x9 = 10)) : Calls Tryd.prog 48 #[.string (strOfNums c)] w (RC w c) := by
  have HR : Hid (Acc.readCard c = none) := Lib.hid (by rw [readCard_by k, if_neg (fun q => h ⟨q.2.1, q.2.2.1, q.2.2.2.2⟩)])
  obtain ⟨S, hS⟩ : ∃ S, S = strOfNums c := ⟨_, rfl⟩
  have hsz : S.size = 10 := by rw [hS, strOfNums_size]; exact k.len
  have e2 : ((S[2]'(by omega)).toNat : Int) = x2 := by subst hS; exact nums_idx hb k.h2 _
  have e3 : ((S[3]'(by omega)).toNat : Int) = x3 := by subst hS; exact nums_idx hb k.h3 _
  have e9 : ((S[9]'(by omega)).toNat : Int) = x9 := by subst hS; exact nums_idx hb k.h9 _
  clear k hb
  rw [← hS]
  clear hS
  by_cases q2 : x2 = 32
  · by_cases q3 : x3 = 43 ∨ x3 = 45
    · have q9 : (x9 != 10) = true := by simp; intro q; exact h ⟨q2, q3, q⟩
      clear h
      rcases q3 with q3 | q3
      all_goals
        subst q2 q3
        go_enter Tryd.func48, Tryd.ntmps48
        go_wp2
        go_ret3
        exact rc_none HR.out (Ext.refl _)
    · have a3 : (x3 != 43) = true := by simp; omega
      have b3 : (x3 != 45) = true := by simp; omega
      clear h q3
      subst q2
      go_enter Tryd.func48, Tryd.ntmps48
      go_wp2
      go_ret3
      exact rc_none HR.out (Ext.refl _)
  · have a2 : (x2 != 32) = true := by simpa using q2
    clear h q2
    go_enter Tryd.func48, Tryd.ntmps48
    go_wp2
    go_ret3
    exact rc_none HR.out (Ext.refl _)
theorem readCard_good_c (c : List Int) (w : World) (hb : Byt c) {x3 : Int} (k : CardBy c 32 x3 10) (h3 : x3 = 43 ∨ x3 = 45) : Calls Tryd.prog 48 #[.string (strOfNums c)] w (RC w c) := by
  obtain ⟨S, hS⟩ : ∃ S, S = strOfNums c := ⟨_, rfl⟩
  have hsz : S.size = 10 := by rw [hS, strOfNums_size]; exact k.len
  have e2 : ((S[2]'(by omega)).toNat : Int) = 32 := by subst hS; exact nums_idx hb k.h2 _
  have e3 : ((S[3]'(by omega)).toNat : Int) = x3 := by subst hS; exact nums_idx hb k.h3 _
  have e9 : ((S[9]'(by omega)).toNat : Int) = 10 := by subst hS; exact nums_idx hb k.h9 _
  have HKB := Lib.hid (readCard_by k)
  have X2 : (strOfNums c).extract 0 2 = strOfNums (c.take 2) := by have := extract_nums c 0 2; simpa using this
  have X5 : (strOfNums c).extract 4 9 = strOfNums ((c.drop 4).take 5) := extract_nums c 4 9
  have HN2 := Lib.hid (fun W => number_c (c.take 2) W (fun x hx => hb x (List.mem_of_mem_take hx)) (by rw [List.length_take]; omega))
  have HN5 := Lib.hid (fun W => number_c ((c.drop 4).take 5) W (fun x hx => hb x (List.mem_of_mem_drop (List.mem_of_mem_take hx))) (by rw [List.length_take]; omega))
  obtain ⟨a2, d2, n2, p2, r2, z2⟩ := num_form (c.take 2)
  obtain ⟨a5, d5, n5, p5, r5, z5⟩ := num_form ((c.drop 4).take 5)
  have hlt5 := fun q => Acc.num_lt ((c.drop 4).take 5) q
  unfold NRet at HN2 HN5
  rw [n2] at HN2
  rw [n5] at HN5
  rw [← p2, ← p5] at HKB
  have ha5 : -100000 < a5 ∧ a5 < 100000 := by
    cases hd : d5 with
    | true =>
      have h1 := hlt5 (by rw [← p5]; exact hd)
      have h2 : 10 ^ ((c.drop 4).take 5).length ≤ 10 ^ 5 := Nat.pow_le_pow_right (by omega) (by rw [List.length_take]; omega)
      rw [r5 hd]; omega
    | false => rw [z5 hd]; omega
  have HR2 := Lib.hid r2
  have HR5 := Lib.hid r5
  clear r2 r5 z2 z5 p2 p5 n2 n5 hlt5 k hb
  rw [← hS] at X2 X5 ⊢
  have HX2 := Lib.hid X2
  have HX5 := Lib.hid X5
  clear X2 X5 hS
  cases d2 <;> cases d5 <;> rcases h3 with rfl | rfl
  all_goals
    go_enter Tryd.func48, Tryd.ntmps48
    go_wp2_with fail
    rw [HX2.out]
    refine (HN2.out _).mono ?_
    rintro e w1 ⟨rfl, hx1⟩
    have HE1 := Lib.hid hx1
    clear hx1
    go_wp2_with fail
    rw [HX5.out]
    refine (HN5.out _).mono ?_
    rintro e w2 ⟨rfl, hx2⟩
    have HE2 := Lib.hid (HE1.out.trans hx2)
    clear hx2
    go_wp2_with fail
    go_ret3
  all_goals first
    | exact rc_none (by rw [HKB.out]; simp) HE2.out
    | exact rc_some (by rw [HKB.out, if_pos (by simp)]) (HR2.out (by trivial)) (by first | (rw [if_neg (by decide)]; exact HR5.out (by trivial)) | (rw [if_pos (by trivial), ← HR5.out (by trivial)])) HE2.out
theorem readCard_c (c : List Int) (w : World) (hb : Byt c) (hl : c.length ≤ 10) : Calls Tryd.prog 48 #[.string (strOfNums c)] w (RC w c) := by
  by_cases h : c.length = 10
  · obtain ⟨x2, x3, x9, k⟩ := card_by h
    by_cases q : x2 = 32 ∧ (x3 = 43 ∨ x3 = 45) ∧ x9 = 10
    · obtain ⟨rfl, q3, rfl⟩ := q
      exact readCard_good_c c w hb k q3
    · exact readCard_form_c c w hb k q
  · exact readCard_len_c c w h hl
end Go.Proofs.YtbaahbpianingaaDoor
