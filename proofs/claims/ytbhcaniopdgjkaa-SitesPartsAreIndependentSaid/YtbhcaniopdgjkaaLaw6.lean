import Derived.Test.YtbhcaniopdgjkaaPlc3
namespace Go.Proofs.Ytbhcaniopdgjkaa
open Go Go.Proofs Go.RowKit
open Plain (SiteD)
set_option maxHeartbeats 1000000
set_option maxRecDepth 100000
theorem leftFault_code (L : List SiteD) (ch lost : List Int) (h : (leftFault L ch lost).1 = 0) : leftFault L ch lost = (0, 0) := by
  unfold leftFault at *
  split at h
  · rename_i hc; rw [if_pos hc]; exact chosenF_code L ch h
  · rename_i hc
    rw [if_neg hc]
    split at h
    · rename_i h2; exact absurd h h2
    · rename_i h2; rw [if_neg h2]
theorem leftFault_ok {L : List SiteD} {ch lost : List Int} (h : leftFault L ch lost = (0, 0)) : Plain.chosenF L ch = (0, 0) ∧ Plain.risingC lost 12 = 0 := by
  unfold leftFault at h
  split at h
  · rename_i hc; exact absurd h hc
  · rename_i hc
    split at h
    · rename_i h2; injection h with h3; exact absurd h3 h2
    · rename_i h2; exact ⟨by simpa using hc, by simpa using h2⟩
def leftR (L : List SiteD) (ch lost : List Int) : List Int := if leftFault L ch lost = (0, 0) then Plain.leftF L ch lost else []
theorem leftR_len (L : List SiteD) (ch lost : List Int) : (leftR L ch lost).length ≤ ch.length := by
  unfold leftR
  split
  · exact List.length_filter_le _ _
  · simp
/-- The law of losses that add up. -/
theorem losses_law (L : List SiteD) (ch lost more : List Int) (h1 : leftFault L ch lost = (0, 0)) (h2 : leftFault L (leftR L ch lost) more = (0, 0)) :
    leftFault L ch (Plain.mergedF lost more 12) = (0, 0) ∧ leftR L (leftR L ch lost) more = leftR L ch (Plain.mergedF lost more 12) := by
  obtain ⟨a1, a2⟩ := leftFault_ok h1
  obtain ⟨b1, b2⟩ := leftFault_ok h2
  have h3 : leftFault L ch (Plain.mergedF lost more 12) = (0, 0) := by
    unfold leftFault
    rw [if_neg (by simpa using a1), if_neg (by simpa using Plain.merged_rising lost more 12)]
  refine ⟨h3, ?_⟩
  rw [show leftR L (leftR L ch lost) more = Plain.leftF L (leftR L ch lost) more from by unfold leftR at h2 ⊢; rw [if_pos h2], show leftR L ch (Plain.mergedF lost more 12) = Plain.leftF L ch (Plain.mergedF lost more 12) from by unfold leftR; rw [if_pos h3]]
  rw [show leftR L ch lost = Plain.leftF L ch lost from by unfold leftR; rw [if_pos h1]]
  exact Plain.left_merged L ch lost more a2 b2
theorem LeftX_c (A C D : Option Addr) (L : List SiteD) (ch lost : List Int) (c1 c2 c3 : Nat) (w : World) (hL : L.length ≤ c1) (hc : ch.length ≤ maxLen) (hd : lost.length ≤ maxLen) (h1 : Sites w A L) (hg : Glob w) (h2 : Sl w .i64 C ch) (h3 : Sl w .i64 D lost) :
    Calls Try.prog 14 #[.slice A L.length c1, .slice C ch.length c2, .slice D lost.length c3] w (LFRet w (leftR L ch lost) (leftFault L ch lost)) := Left_c A C D L ch lost c1 c2 c3 w hL hc hd h1 hg h2 h3
theorem law6_c (A C D E : Option Addr) (L : List SiteD) (ch lost more : List Int) (c1 c2 c3 c4 : Nat) (w : World) (hL : L.length ≤ c1) (hc : ch.length ≤ maxLen) (hd : lost.length ≤ maxLen) (he : more.length ≤ maxLen) (h1 : Sites w A L) (hg : Glob w) (h2 : Sl w .i64 C ch) (h3 : Sl w .i64 D lost) (h4 : Sl w .i64 E more) :
    Calls Try.prog 6 #[.slice A L.length c1, .slice C ch.length c2, .slice D lost.length c3, .slice E more.length c4] w (BRet w true) := by
  have HP := Lib.hid (placed_c w hg)
  have HC1 := Lib.hid (fun w1 (x : Ext w w1) => LeftX_c A C D L ch lost c1 c2 c3 w1 hL hc hd (h1.ext x) (hg.ext x) (h2.ext x) (h3.ext x))
  have HC2 := Lib.hid (fun w1 (x : Ext w w1) R c (h : Sl w1 .i64 R (leftR L ch lost)) => LeftX_c A R E L (leftR L ch lost) more c1 c c4 w1 hL (Nat.le_trans (leftR_len _ _ _) hc) he (h1.ext x) (hg.ext x) h (h4.ext x))
  have HCM := Lib.hid (fun w1 (x : Ext w w1) => Merged_c D E lost more c3 c4 12 w1 hd he (by omega) (h3.ext x) (h4.ext x))
  have HC3 := Lib.hid (fun w1 (x : Ext w w1) R c (h : Sl w1 .i64 R (Plain.mergedF lost more 12)) => LeftX_c A C R L ch (Plain.mergedF lost more 12) c1 c2 c w1 hL hc (Nat.le_trans (merged_len _ _ _) (by unfold maxLen; omega)) (h1.ext x) (hg.ext x) (h2.ext x) h)
  have HLAW := Lib.hid (losses_law L ch lost more)
  have HLN := Lib.hid (leftR_len L ch lost)
  have HNIL : Hid (leftFault L ch lost ≠ (0, 0) → leftR L ch lost = []) := fun h => by unfold leftR; rw [if_neg h]
  have HLB : Hid ((leftR L (leftR L ch lost) more).length ≤ maxLen) := Nat.le_trans (leftR_len _ _ _) (Nat.le_trans (leftR_len _ _ _) hc)
  have HK1 := Lib.hid (leftFault_code L ch lost)
  have HK2 := Lib.hid (leftFault_code L (leftR L ch lost) more)
  generalize leftR L ch lost = a at *
  generalize hB : Plain.mergedF lost more 12 = B at *
  generalize leftR L a more = b at *
  generalize leftR L ch B = c at *
  generalize leftFault L ch lost = f at *
  generalize leftFault L a more = g at *
  generalize leftFault L ch B = h at *
  obtain ⟨f1, f2⟩ := f
  obtain ⟨g1, g2⟩ := g
  obtain ⟨k1, k2⟩ := h
  clear h1 h2 h3 h4 hg hB
  go_enter Try.func6, Try.ntmps6
  go_upto_region 3 with (first | (go_at_call 21; refine HP.out.mono ?_; rintro e w1 ⟨rfl, hx⟩; have HX1 := Lib.hid hx; clear hx))
  go_cut [9, 10] (fun s9 s10 wx => LV wx s9 a ∧ FV wx s10 (f1, f2) ∧ Ext w wx)
  case first =>
    go_wp2_with (go_at_call 14; refine (HC1.out _ HX1.out).mono ?_; rintro e w3 ⟨v3, rfl, ho3, hx3⟩; have HL := Lib.hid (own_lv ho3); have HX3 := Lib.hid (HX1.out.trans hx3); clear ho3 hx3)
    go_meet
    exact ⟨HL.out.ext ((Ext.refl _).alloc _), new_fv _ _ _, HX3.out.alloc _⟩
  case rest =>
    obtain ⟨⟨R9, d9, rfl, l9⟩, hf10, hxc⟩ := hcut
    have HL9 := Lib.hid l9
    have HF10 := Lib.hid hf10
    have HXC := Lib.hid hxc
    clear l9 hf10 hxc HC1 HP
    go_upto_region 4 with (fail)
    go_cut [11, 12] (fun s11 s12 wx => LV wx s11 b ∧ FV wx s12 (g1, g2) ∧ Ext wc wx)
    case first =>
      go_wp2_with (go_at_call 14; refine (HC2.out _ HXC.out _ _ HL9.out).mono ?_; rintro e w3 ⟨v3, rfl, ho3, hx3⟩; have HL := Lib.hid (own_lv ho3); have HX3 := Lib.hid hx3; clear ho3 hx3)
      go_meet
      exact ⟨HL.out.ext ((Ext.refl _).alloc _), new_fv _ _ _, HX3.out.alloc _⟩
    case rest =>
      obtain ⟨⟨R11, d11, rfl, l11⟩, hf12, hx2⟩ := hcut
      have HL11 := Lib.hid l11
      have HF12 := Lib.hid hf12
      have HF10 := Lib.hid (HF10.out.ext hx2)
      have HXC := Lib.hid (HXC.out.trans hx2)
      clear l11 hf12 hx2 HC2
      go_upto_region 6 with (go_at_call 33; refine (HCM.out _ HXC.out).mono ?_; rintro e w5 ⟨v5, rfl, ho5, hx5⟩; have HO5 := Lib.hid (own_lv ho5); obtain ⟨R13, d13, rfl, _, _, _, l13⟩ := own_sl ho5; have HL13 := Lib.hid l13; have HX5 := Lib.hid hx5; clear ho5 hx5 l13)
      go_cut [14, 15] (fun s14 s15 wx => LV wx s14 c ∧ FV wx s15 (k1, k2) ∧ Ext w5 wx)
      case first =>
        go_wp2_with (go_at_call 14; refine (HC3.out _ (HXC.out.trans HX5.out) _ _ HL13.out).mono ?_; rintro e w3 ⟨v3, rfl, ho3, hx3⟩; have HL := Lib.hid (own_lv ho3); have HX3 := Lib.hid hx3; clear ho3 hx3)
        go_meet
        exact ⟨HL.out.ext ((Ext.refl _).alloc _), new_fv _ _ _, HX3.out.alloc _⟩
      case rest =>
        obtain ⟨⟨R14, d14, rfl, l14⟩, hf15, hx2⟩ := hcut
        have HL14 := Lib.hid l14
        have hl11 := (HL11.out.ext HX5.out).ext hx2
        obtain ⟨q10, rfl, f10⟩ := (HF10.out.ext HX5.out).ext hx2
        obtain ⟨q12, rfl, f12⟩ := (HF12.out.ext HX5.out).ext hx2
        obtain ⟨q15, rfl, f15⟩ := hf15
        have HL11' := Lib.hid hl11
        have HXF := Lib.hid ((HXC.out.trans HX5.out).trans hx2)
        have z10 := f10.c0
        have z12 := f12.c0
        have z15 := f15.c0
        clear l14 hl11 f10 f12 f15 hx2 HC3 HCM
        simp only at z10 z12 z15
        by_cases e1 : f1 = 0
        · have hf0 := HK1.out e1
          subst e1
          by_cases e2 : g1 = 0
          · have hg0 := HK2.out e2
            subst e2
            obtain ⟨hk0, hbc⟩ := HLAW.out hf0 hg0
            injection hk0 with e3 e4
            subst e3
            subst hbc
            have HIN := Lib.hid (ints_same R11 R14 b b.length d11 d14 wc rfl HLB.out HL11'.out HL14.out)
            clear hf0 hg0 e4
            go_wp2_with (go_at_call 24; refine HIN.out.mono ?_; rintro e w9 ⟨rfl, hx9⟩; have HX9 := Lib.hid (HXF.out.trans hx9); clear hx9)
            go_ret
            exact ⟨rfl, HX9.out⟩
          · have e2' : (g1 != 0) = true := by simpa using e2
            go_wp2
            go_ret
            exact ⟨rfl, HXF.out⟩
        · have ha := HNIL.out (by intro h; apply e1; injection h)
          subst ha
          have e1' : (f1 != 0) = true := by simpa using e1
          have e1'' : (f1 == 0) = false := by simpa using e1
          go_wp2
          go_ret
          exact ⟨rfl, HXF.out⟩
end Go.Proofs.Ytbhcaniopdgjkaa
