import Derived.Test.YtnijfndpefkoeaaRnP
namespace Go.Proofs.Ytnijfndpefkoeaa
open Go Go.Proofs Go.RowKit
set_option maxHeartbeats 3200000
set_option maxRecDepth 100000
theorem tfault_c (c i : Int) (w : World) :
    Calls Try.prog 25 #[.int .i64 c, .int .i64 i] w fun e w' => e = .returned (.agg #[.int .i64 c, .int .i64 i]) ∧ w.alloc (.cells #[.int .i64 c, .int .i64 i] 26) = w' := by
  go_enter Try.func25, Try.ntmps25
  go_wp2
  exact bodyPost_ret (v := .agg #[.int .i64 c, .int .i64 i]) (by simp [results, Try.results25, go_sem]) rfl ⟨rfl, rfl⟩
theorem okM_eq (a b : Int) : okM (a, b) = (decide (0 ≤ a) && (decide (a ≤ 9999) && (decide (1 ≤ b) && decide (b ≤ 1000)))) := by
  unfold okM inB
  simp only [Bool.decide_and, Bool.and_assoc]
theorem valid_c (p : Int × Int) (w : World) : Calls Try.prog 24 #[.agg #[.int .i64 p.1, .int .i64 p.2]] w (BRet w (okM p)) := by
  obtain ⟨a, b⟩ := p
  have HX := Lib.hid ((Ext.refl w).alloc (.cells #[.int .i64 a, .int .i64 b] 23))
  obtain ⟨R, hR⟩ : ∃ R, R = okM (a, b) := ⟨_, rfl⟩
  rw [← hR]
  rw [okM_eq] at hR
  by_cases h1 : 0 ≤ a
  · by_cases h2 : a ≤ 9999
    · by_cases h3 : 1 ≤ b
      · have HE : Hid (decide (b ≤ 1000) = R) := Lib.hid (by rw [hR]; simp [h1, h2, h3])
        clear hR
        go_enter Try.func24, Try.ntmps24
        go_wp2
        go_ret
        exact ⟨ret_bool HE.out, HX.out⟩
      · have HE : Hid (false = R) := Lib.hid (by rw [hR]; simp [h1, h2, h3])
        clear hR
        go_enter Try.func24, Try.ntmps24
        go_wp2
        go_ret
        exact ⟨ret_bool HE.out, HX.out⟩
    · have HE : Hid (false = R) := Lib.hid (by rw [hR]; simp [h1, h2])
      clear hR
      go_enter Try.func24, Try.ntmps24
      go_wp2
      go_ret
      exact ⟨ret_bool HE.out, HX.out⟩
  · have HE : Hid (false = R) := Lib.hid (by rw [hR]; simp [h1])
    clear hR
    go_enter Try.func24, Try.ntmps24
    go_wp2
    go_ret
    exact ⟨ret_bool HE.out, HX.out⟩
theorem MediumOk_c (p : Int × Int) (w : World) : Calls Try.prog 12 #[.agg #[.int .i64 p.1, .int .i64 p.2]] w (BRet w (okM p)) := by
  obtain ⟨made, life⟩ := p
  have HX := Lib.hid ((Ext.refl w).alloc (.cells #[.int .i64 made, .int .i64 life] 23))
  show Calls _ _ _ _ (BRet w (inB made 0 9999 && inB life 1 1000))
  cases h1 : inB made 0 9999 with
  | true =>
    go_enter Try.func12, Try.ntmps12
    go_wp2_with (go_at_call 16; refine (In_c _ _ _ _).mono ?_; rintro e w' ⟨rfl, rfl⟩)
    go_ret
    exact ⟨by simp, HX.out⟩
  | false =>
    go_enter Try.func12, Try.ntmps12
    go_wp2_with (go_at_call 16; refine (In_c _ _ _ _).mono ?_; rintro e w' ⟨rfl, rfl⟩)
    go_ret
    exact ⟨by simp, HX.out⟩
def TwoRet (w : World) (p : Int × Int) (e : Ending) (w' : World) : Prop := e = .returned (.tuple #[.int .i64 p.1, .int .i64 p.2]) ∧ Ext w w'
theorem window_c (p : Int × Int) (w : World) (h : okM p = true) : Calls Try.prog 26 #[.agg #[.int .i64 p.1, .int .i64 p.2]] w (TwoRet w (winF p)) := by
  have hw := win_prog h
  have hi := okM_iff.1 h
  have HR : Hid (∀ W, Ext w W → TwoRet w (winF p) (.returned (.tuple #[.int .i64 (p.1 + (p.2 + 1).tdiv 2), .int .i64 (p.1 + p.2)])) W) := Lib.hid fun W x => ⟨by rw [hw]; rfl, x⟩
  obtain ⟨a, b⟩ := p
  simp only at hi HR ⊢
  have hd : (b + 1).tdiv 2 = (b + 1) / 2 := by rw [Int.tdiv_eq_ediv_of_nonneg (by omega)]
  obtain ⟨q, hq⟩ : ∃ q, (b + 1).tdiv 2 = q := ⟨_, rfl⟩
  have hq2 : 0 ≤ q ∧ q ≤ 501 := by rw [← hq, hd]; omega
  rw [hq] at HR
  have w1 : IntKind.i64.wrap (b + 1) = b + 1 := IntWalk.i64_in _ (by omega)
  have w2 : IntKind.i64.wrap (a + q) = a + q := IntWalk.i64_in _ (by omega)
  have w3 : IntKind.i64.wrap (a + b) = a + b := IntWalk.i64_in _ (by omega)
  clear hw hd h
  go_enter Try.func26, Try.ntmps26
  go_wp2
  go_region
  all_goals go_wp2
  all_goals go_ret2
  all_goals exact HR.out _ (by repeat (first | exact Ext.refl _ | apply Ext.drew | apply Ext.alloc))
theorem WindowOf_c (p : Int × Int) (w : World) (h : okM p = true) : Calls Try.prog 13 #[.agg #[.int .i64 p.1, .int .i64 p.2]] w (TwoRet w (winF p)) := by
  have hi := okM_iff.1 h
  have HR : Hid (∀ W, Ext w W → TwoRet w (winF p) (.returned (.tuple #[.int .i64 (p.1 + p.2 - p.2 / 2), .int .i64 (p.1 + p.2)])) W) := Lib.hid fun W x => ⟨rfl, x⟩
  obtain ⟨a, b⟩ := p
  simp only at hi HR ⊢
  have hd : b.tdiv 2 = b / 2 := by rw [Int.tdiv_eq_ediv_of_nonneg (by omega)]
  obtain ⟨q, hq⟩ : ∃ q, b / 2 = q := ⟨_, rfl⟩
  have hq2 : 0 ≤ q ∧ q ≤ 500 := by rw [← hq]; omega
  rw [hq] at HR hd
  have w3 : IntKind.i64.wrap (a + b) = a + b := IntWalk.i64_in _ (by omega)
  have w2 : IntKind.i64.wrap (a + b - q) = a + b - q := IntWalk.i64_in _ (by omega)
  clear hq h
  go_enter Try.func13, Try.ntmps13
  go_wp2
  go_region
  all_goals go_wp2
  all_goals go_ret2
  all_goals exact HR.out _ (by repeat (first | exact Ext.refl _ | apply Ext.drew | apply Ext.alloc))
end Go.Proofs.Ytnijfndpefkoeaa
