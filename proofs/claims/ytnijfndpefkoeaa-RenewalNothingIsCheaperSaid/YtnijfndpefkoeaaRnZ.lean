import Derived.Test.YtnijfndpefkoeaaRnI2
namespace Go.Proofs.Ytnijfndpefkoeaa
open Go Go.Proofs Go.RowKit
set_option maxHeartbeats 6400000
set_option maxRecDepth 100000
def lexTo (a b : List Int) (k : Nat) : Prop := Ren.lexB a b = Ren.lexB (a.drop k) (b.drop k)
theorem lex_ne {a b : List Int} {k : Nat} {x y : Int} (h : lexTo a b k) (hx : a[k]? = some x) (hy : b[k]? = some y) (hn : x ≠ y) : Ren.lexB a b = decide (x < y) := by
  obtain ⟨h1, rfl⟩ := List.getElem?_eq_some_iff.1 hx
  obtain ⟨h2, rfl⟩ := List.getElem?_eq_some_iff.1 hy
  rw [h, List.drop_eq_getElem_cons h1, List.drop_eq_getElem_cons h2, Ren.lexB, if_neg hn]
theorem lex_next {a b : List Int} {k : Nat} {x : Int} (h : lexTo a b k) (hx : a[k]? = some x) (hy : b[k]? = some x) : lexTo a b (k + 1) := by
  obtain ⟨h1, e1⟩ := List.getElem?_eq_some_iff.1 hx
  obtain ⟨h2, e2⟩ := List.getElem?_eq_some_iff.1 hy
  unfold lexTo
  rw [h, List.drop_eq_getElem_cons h1, List.drop_eq_getElem_cons h2, Ren.lexB, if_pos (by rw [e1, e2])]
theorem lex_end {a b : List Int} {k : Nat} (h : lexTo a b k) (hk : k ≤ a.length) (hk' : k ≤ b.length) (he : a.length ≤ k ∨ b.length ≤ k) : Ren.lexB a b = decide ((a.length : Int) < (b.length : Int)) := by
  rw [h]
  rcases Nat.lt_or_ge k b.length with q | q
  · have : a.length = k := by omega
    rw [List.drop_of_length_le (Nat.le_of_eq this), List.drop_eq_getElem_cons q, decide_eq_true (by omega)]
    rfl
  · rw [List.drop_of_length_le q, decide_eq_false (by omega)]
    cases a.drop k <;> rfl
theorem cmp_ne {x y : Int} (h : x ≠ y) : (Lib.compareInt x y != 0) = true ∧ decide (Lib.compareInt x y < 0) = decide (x < y) := by
  unfold Lib.compareInt
  by_cases h1 : x < y
  · simp [h1]
  · have : y < x := by omega
    simp [h1, this]
theorem cmp_eq (x : Int) : Lib.compareInt x x = 0 := by
  unfold Lib.compareInt
  simp
theorem Compare_c (A B : Option Addr) (a b : List Int) (c d : Nat) (w : World) (ha : a.length ≤ maxLen) (_hb : b.length ≤ maxLen) (h1 : Sl w .i64 A a) (h2 : Sl w .i64 B b) :
    Calls Try.prog 41 #[.slice A a.length c, .slice B b.length d] w fun e w' => ∃ r : Int, e = .returned (.int .i64 r) ∧ decide (r < 0) = Ren.lexB a b ∧ w = w' := by
  unfold maxLen at ha
  obtain ⟨r, hr⟩ : ∃ r, Ren.lexB a b = r := ⟨_, rfl⟩
  rw [hr]
  have HRR := Lib.hid hr
  obtain ⟨p, hp⟩ : ∃ p, p = a.length := ⟨_, rfl⟩
  obtain ⟨q, hq⟩ : ∃ q, q = b.length := ⟨_, rfl⟩
  rw [← hp] at ha ⊢
  rw [← hq]
  have HP := Lib.hid hp
  have HQ := Lib.hid hq
  clear hp hq hr
  go_enter Try.func41, Try.ntmps41
  go_wp2
  go_loop [11] (fun i => ∃ k : Nat, k ≤ p ∧ k ≤ q ∧ i = .int .i64 k ∧ lexTo a b k) (fun i => p - (intOf i).toNat)
  case atStart => exact ⟨0, Nat.zero_le _, Nat.zero_le _, rfl, rfl⟩
  case round =>
    obtain ⟨k, hk, hk', rfl, hr⟩ := hrel
    have HR := Lib.hid hr
    clear hr
    by_cases hlt : k < p
    · have hkl : k < a.length := by rw [← HP.out]; exact hlt
      obtain ⟨b1, o1, x, rfl, hx, hc1⟩ := h1.at2 hkl
      by_cases hlq : k < q
      · have hkm : k < b.length := by rw [← HQ.out]; exact hlq
        obtain ⟨b2, o2, y, rfl, hy, hc2⟩ := h2.at2 hkm
        clear hkl hkm
        by_cases hxy : x = y
        · subst hxy
          have hce := cmp_eq x
          go_wp2_with (go_at_call 46; refine (Try.cmp_Compare_int _ _ _).mono ?_; rintro e w' ⟨rfl, rfl⟩; rw [hce])
          go_round
          case rel => exact ⟨k + 1, by omega, by omega, by go_num, lex_next HR.out hx.out hy.out⟩
          case measure => simp [intOf]; omega
        · have HC := Lib.hid ((cmp_ne hxy).2.trans ((lex_ne HR.out hx.out hy.out hxy).symm.trans HRR.out))
          have hne := (cmp_ne hxy).1
          have HCM := Lib.hid (Try.cmp_Compare_int x y w)
          generalize Lib.compareInt x y = cc at HC hne HCM
          go_wp2_with (go_at_call 46; refine HCM.out.mono ?_; rintro e w' ⟨rfl, rfl⟩)
          go_ret
          exact ⟨cc, rfl, HC.out, rfl⟩
      · have HE : Hid (decide ((1 : Int) < 0) = r) := by
          show _ = _
          rw [← HRR.out, lex_end HR.out (by rw [← HP.out]; exact hk) (by rw [← HQ.out]; exact hk') (.inr (by rw [← HQ.out]; omega))]
          rw [← HP.out, ← HQ.out]
          simp; omega
        clear hkl
        go_wp2
        go_ret
        exact ⟨1, rfl, HE.out, rfl⟩
    · have HE : Hid (decide ((p : Int) < (q : Int)) = r) := by
        show _ = _
        rw [← HRR.out, lex_end HR.out (by rw [← HP.out]; exact hk) (by rw [← HQ.out]; exact hk') (.inl (by rw [← HP.out]; omega))]
        rw [← HP.out, ← HQ.out]
      by_cases hpq : p < q
      · go_wp2
        go_ret
        exact ⟨-1, rfl, by rw [← HE.out]; simp [hpq], rfl⟩
      · go_wp2
        go_ret
        exact ⟨0, rfl, by rw [← HE.out]; simp [hpq], rfl⟩
end Go.Proofs.Ytnijfndpefkoeaa
