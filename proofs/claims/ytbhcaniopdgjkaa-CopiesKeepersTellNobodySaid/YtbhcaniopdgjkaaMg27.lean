import Derived.Test.YtbhcaniopdgjkaaMg26
namespace Go.Proofs.Ytbhcaniopdgjkaa
open Go Go.Proofs Go.RowKit
open Plain (SiteD)
set_option maxHeartbeats 1000000
set_option maxRecDepth 100000
theorem fold_scan (L : List SiteD) (ch : List Int) : ∀ (cs : List (List Int)) (b : List Int), ∃ r, Plain.scanFirst (fun c => (Plain.leftF L ch c).length) cs (some b) = some r ∧ cs.foldl (fun S c => stepW L ch ([] ++ c) S) (b, ((Plain.leftF L ch b).length : Int)) = (r, ((Plain.leftF L ch r).length : Int))
  | [], b => ⟨b, rfl, rfl⟩
  | c :: cs, b => by
    rw [Plain.scanFirst, List.foldl_cons]
    have : stepW L ch ([] ++ c) (b, ((Plain.leftF L ch b).length : Int)) = ((if (Plain.leftF L ch c).length < (Plain.leftF L ch b).length then c else b), ((Plain.leftF L ch (if (Plain.leftF L ch c).length < (Plain.leftF L ch b).length then c else b)).length : Int)) := by
      unfold stepW
      rw [List.nil_append]
      by_cases h : (Plain.leftF L ch c).length < (Plain.leftF L ch b).length
      · rw [if_pos (by simpa using h), if_pos h]
      · rw [if_neg (by simpa using h), if_neg h]
    rw [this]
    exact fold_scan L ch cs _
theorem worstP_best (L : List SiteD) (ch : List Int) (cnt : Nat) (h : cnt ≤ (Plain.zonesF L).length) : ∃ b, worstP L ch cnt = (b, ((Plain.leftF L ch b).length : Int)) ∧ Plain.Best (fun c => (Plain.leftF L ch c).length) (Plain.combs cnt (Plain.zonesF L)) b := by
  have hne : Plain.combs cnt (Plain.zonesF L) ≠ [] := by
    have : (Plain.zonesF L).take cnt ∈ Plain.combs cnt (Plain.zonesF L) := (Plain.mem_combs _ _ _).2 ⟨List.take_sublist _ _, by simp; omega⟩
    intro e; rw [e] at this; simp at this
  obtain ⟨b, h1, h2⟩ := Plain.scanFirst_best (fun c => (Plain.leftF L ch c).length) (Plain.combs cnt (Plain.zonesF L)) (Plain.combs_sorted _ _ (Plain.zones_sorted L)) hne
  refine ⟨b, ?_, h2⟩
  unfold worstP visS
  cases hc : Plain.combs cnt (Plain.zonesF L) with
  | nil => exact absurd hc hne
  | cons c cs =>
    rw [hc, Plain.scanFirst] at h1
    rw [List.foldl_cons]
    have h3 : stepW L ch ([] ++ c) (List.replicate cnt 0, (ch.length : Int) + 1) = (c, ((Plain.leftF L ch c).length : Int)) := by
      unfold stepW
      have : (Plain.leftF L ch c).length ≤ ch.length := List.length_filter_le _ _
      rw [List.nil_append, if_pos (by simp only; omega)]
    rw [h3]
    obtain ⟨r, r1, r2⟩ := fold_scan L ch cs c
    rw [h1] at r1
    injection r1 with r1
    rw [r2, r1]
theorem worstFault_ok {L : List SiteD} {ch : List Int} {count : Int} (h : worstFault L ch count = (0, 0)) : Plain.chosenF L ch = (0, 0) ∧ 0 ≤ count ∧ count ≤ 12 := by
  unfold worstFault at h
  split at h
  · rename_i hc; exact absurd h hc
  · rename_i hc
    split at h
    · cases h
    · rename_i h2; exact ⟨by simpa using hc, by omega, by omega⟩
theorem worstFault_code (L : List SiteD) (ch : List Int) (count : Int) (h : (worstFault L ch count).1 = 0) : worstFault L ch count = (0, 0) := by
  unfold worstFault at *
  split at h
  · rename_i hc; rw [if_pos hc]; exact chosenF_code L ch h
  · rename_i hc
    rw [if_neg hc]
    split at h
    · cases h
    · rename_i h2; rw [if_neg h2]
theorem bound_law (L : List SiteD) (ch lost : List Int) (count : Int) (h1 : leftFault L ch lost = (0, 0)) (h2 : worstFault L ch count = (0, 0)) (h3 : (lost.length : Int) ≤ count) : (worstR L ch count).2 ≤ (leftR L ch lost).length := by
  obtain ⟨a1, a2⟩ := leftFault_ok h1
  obtain ⟨b1, b2, b3⟩ := worstFault_ok h2
  unfold worstR leftR
  rw [if_pos h1, if_pos h2]
  obtain ⟨b, e1, e2⟩ := worstP_best L ch (min count.toNat (Plain.zonesF L).length) (Nat.min_le_right _ _)
  rw [e1]
  have := Plain.worst_bound (l := L) (chosen := ch) (lost := lost) (count := count.toNat) (fun i _ z hz => Plain.zonesAt_mem (chosenF_ok a1).1 i z hz) (by omega) e2
  simp only
  omega
theorem law5_c (A C D : Option Addr) (L : List SiteD) (ch lost : List Int) (c1 c2 c3 : Nat) (count : Int) (w : World) (hL : L.length ≤ c1) (hc : ch.length ≤ maxLen) (hd : lost.length ≤ maxLen) (h1 : Sites w A L) (hg : Glob w) (h2 : Sl w .i64 C ch) (h3 : Sl w .i64 D lost) :
    Calls Try.prog 5 #[.slice A L.length c1, .slice C ch.length c2, .slice D lost.length c3, .int .i64 count] w (BRet w true) := by
  have HP := Lib.hid (placed_c w hg)
  have HC1 := Lib.hid (fun w1 (x : Ext w w1) => LeftX_c A C D L ch lost c1 c2 c3 w1 hL hc hd (h1.ext x) (hg.ext x) (h2.ext x) (h3.ext x))
  have HC2 := Lib.hid (fun w1 (x : Ext w w1) => Worst_c A C L ch c1 c2 count w1 hL hc (h1.ext x) (hg.ext x) (h2.ext x))
  have HLAW := Lib.hid (bound_law L ch lost count)
  have HNIL : Hid (leftFault L ch lost ≠ (0, 0) → leftR L ch lost = []) := fun h => by unfold leftR; rw [if_neg h]
  have HK1 := Lib.hid (leftFault_code L ch lost)
  have HK2 := Lib.hid (worstFault_code L ch count)
  generalize leftR L ch lost = a at *
  generalize worstR L ch count = W at *
  generalize leftFault L ch lost = f at *
  generalize worstFault L ch count = g at *
  obtain ⟨f1, f2⟩ := f
  obtain ⟨g1, g2⟩ := g
  obtain ⟨Wl, Wn⟩ := W
  clear h1 h2 h3 hg
  go_enter Try.func5, Try.ntmps5
  go_upto_region 3 with (first | (go_at_call 21; refine HP.out.mono ?_; rintro e w1 ⟨rfl, hx⟩; have HX1 := Lib.hid hx; clear hx))
  go_cut [9, 10] (fun s9 s10 wx => LV wx s9 a ∧ FV wx s10 (f1, f2) ∧ Ext w wx)
  case first =>
    go_wp2_with (go_at_call 14; refine (HC1.out _ HX1.out).mono ?_; rintro e w3 ⟨v3, rfl, ho3, hx3⟩; have HL := Lib.hid (own_lv ho3); have HX3 := Lib.hid (HX1.out.trans hx3); clear ho3 hx3)
    go_meet
    exact ⟨HL.out.ext ((Ext.refl _).alloc _), new_fv _ _ _, HX3.out.alloc _⟩
  case rest =>
    obtain ⟨⟨R9, d9, rfl, l9⟩, hf10, hxc⟩ := hcut
    have HF10 := Lib.hid hf10
    have HXC := Lib.hid hxc
    clear l9 hf10 hxc HC1 HP
    go_upto_region 4 with (fail)
    go_cut [12, 13] (fun s12 s13 wx => s12 = .int .i64 Wn ∧ FV wx s13 (g1, g2) ∧ Ext wc wx)
    case first =>
      go_wp2_with (go_at_call 27; refine (HC2.out _ HXC.out).mono ?_; rintro e w3 ⟨v3, rfl, ho3, hx3⟩; have HX3 := Lib.hid hx3; clear ho3 hx3)
      go_meet
      exact ⟨rfl, new_fv _ _ _, HX3.out.alloc _⟩
    case rest =>
      obtain ⟨rfl, hf13, hx2⟩ := hcut
      obtain ⟨q10, rfl, f10⟩ := HF10.out.ext hx2
      obtain ⟨q13, rfl, f13⟩ := hf13
      have HXF := Lib.hid (HXC.out.trans hx2)
      have z10 := f10.c0
      have z13 := f13.c0
      clear f10 f13 hx2 HC2
      simp only at z10 z13
      by_cases e1 : f1 = 0
      · have hf0 := HK1.out e1
        subst e1
        by_cases e2 : g1 = 0
        · have hg0 := HK2.out e2
          subst e2
          have HL2 := Lib.hid (HLAW.out hf0 hg0)
          clear hf0 hg0
          by_cases e3 : count < (lost.length : Int)
          · go_wp2
            go_ret
            exact ⟨rfl, HXF.out⟩
          · have e4 := HL2.out (by omega)
            go_wp2
            go_ret
            refine ⟨ret_bool ?_, HXF.out⟩
            simp
        · have e2' : (g1 != 0) = true := by simpa using e2
          go_wp2
          go_ret
          exact ⟨rfl, HXF.out⟩
      · have ha := HNIL.out (by intro h; apply e1; injection h)
        subst ha
        have e1' : (f1 != 0) = true := by simpa using e1
        have e1'' : (f1 == 0) = false := by simpa using e1
        go_wp2
        go_ret
        exact ⟨rfl, HXF.out⟩
end Go.Proofs.Ytbhcaniopdgjkaa
