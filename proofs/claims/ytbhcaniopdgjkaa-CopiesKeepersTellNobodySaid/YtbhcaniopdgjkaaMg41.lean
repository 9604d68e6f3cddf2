import Derived.Test.YtbhcaniopdgjkaaMg40
namespace Go.Proofs.Ytbhcaniopdgjkaa
open Go Go.Proofs Go.RowKit
open Plain (SiteD)
set_option maxHeartbeats 4000000
set_option maxRecDepth 100000
theorem LV.setB {w : World} {s : Value} {l : List Int} (h : LV w s l) {g : Nat} (hg : ∀ R c, s = .slice R l.length c → ∀ a : Addr, R = some a → a.block ≠ g) (x y : Value) : LV ((w.setCell ⟨g, 0, none⟩ x).setCell ⟨g, 1, none⟩ y) s l := by
  obtain ⟨R, c, h1, h2⟩ := h
  exact ⟨R, c, h1, (h2.setB (hg R c h1) x).setB (hg R c h1) y⟩
theorem planFault_cases (L : List SiteD) (losses left : Int) : ((Plain.sitesF L).1 = 0 → planFault L losses left = limitsF losses left (-2)) ∧ ((Plain.sitesF L).1 ≠ 0 → planFault L losses left = Plain.sitesF L) := by
  unfold planFault
  refine ⟨fun h => if_pos (sitesF_code L h), fun h => if_neg fun e => h (by rw [e])⟩
theorem planFault_code (L : List SiteD) (losses left : Int) (h : (planFault L losses left).1 = 0) : planFault L losses left = (0, 0) := by
  unfold planFault at *
  split at h
  · rename_i hs; rw [if_pos hs]; exact (limits_ok h).1
  · rename_i hs; rw [if_neg hs]; exact sitesF_code L h
theorem planFault_ok {L : List SiteD} {losses left : Int} (h : planFault L losses left = (0, 0)) : Plain.sitesF L = (0, 0) ∧ (0 ≤ losses ∧ losses ≤ 12) ∧ 0 ≤ left ∧ left ≤ 10 := by
  unfold planFault at h
  split at h
  · rename_i hs; exact ⟨hs, (limits_ok (by rw [h])).2⟩
  · rename_i hs; exact absurd h hs
theorem endR_cases (L : List SiteD) (f : Int × Int) (st : Option (List Int)) : (f = (0, 0) → endR L f st = (st.getD [], costF L (st.getD []), foundF st)) ∧ (¬ f = (0, 0) → endR L f st = ([], 0, f)) :=
  ⟨fun h => by unfold endR; rw [if_pos h], fun h => by unfold endR; rw [if_neg h]⟩
theorem cost_none (L : List SiteD) (st : Option (List Int)) (h : st = none) : costF L (st.getD []) = 0 := by rw [h]; rfl
theorem sub_len {L : List SiteD} {l : List Int} (h : l.Sublist (upTo L.length)) : l.length ≤ L.length := by have := h.length_le; rw [upTo_len] at this; exact this
theorem endR_len {L : List SiteD} {f : Int × Int} {st : Option (List Int)} (h1 : f = (0, 0) → L.length ≤ 10) (h : ∀ b, st = some b → b.Sublist (upTo L.length)) : (endR L f st).1.length ≤ maxLen := by
  unfold endR
  split
  · rename_i hf
    cases st with
    | none => simp
    | some b => have := sub_len (h b rfl); have := h1 hf; simp only [Option.getD_some]; unfold maxLen; omega
  · simp
theorem planR_len (L : List SiteD) (losses left : Int) : (planR L losses left).1.length ≤ maxLen := endR_len (fun h => sitesF_len (planFault_ok h).1) fun _ h => (plan_mem h).1
theorem planFault_len (L : List SiteD) (losses left : Int) (h : planFault L losses left = (0, 0)) : L.length ≤ 100000 := by have := sitesF_len (planFault_ok h).1; omega
/-- The fault of Keepers behind its first number. -/
def keepMid (L : List SiteD) (need : Int) : Int × Int := if (decide ((Plain.sitesF L).1 = 0) && (!inB need 1 10)) = true then (4, -2) else Plain.sitesF L
theorem keepMid_eq (L : List SiteD) (need : Int) : keepMid L need = if (decide ((Plain.sitesF L).1 = 0) && (!inB need 1 10)) = true then (4, -2) else Plain.sitesF L := rfl
theorem keepFault_mid (L : List SiteD) (need losses : Int) : keepFault L need losses = if (decide ((keepMid L need).1 = 0) && (!inB losses 0 12)) = true then (4, -3) else keepMid L need := by
  unfold keepFault keepMid
  by_cases hs : Plain.sitesF L = (0, 0)
  · rw [if_pos hs, hs]
    cases inB need 1 10 <;> cases inB losses 0 12 <;> simp
  · rw [if_neg hs]
    have h1 : ¬ (Plain.sitesF L).1 = 0 := fun h => hs (sitesF_code L h)
    simp [h1]
theorem leftFault_mid (L : List SiteD) (ch lost : List Int) : leftFault L ch lost = if (decide ((Plain.chosenF L ch).1 = 0) && decide (Plain.risingC lost 12 ≠ 0)) = true then (Plain.risingC lost 12, -3) else Plain.chosenF L ch := by
  obtain ⟨⟨f1, f2⟩, hf⟩ : ∃ f, Plain.chosenF L ch = f := ⟨_, rfl⟩
  rw [leftFault_cases L ch lost f1 f2 hf, hf]
  simp
/-- The search of the specification. -/
def SRet (w : World) (L : List SiteD) (st : Option (List Int)) (e : Ending) (w' : World) : Prop := ∃ v, e = .returned (.tuple #[v, .int .i64 (costF L (st.getD [])), .bool st.isSome]) ∧ LV w' v (st.getD []) ∧ Ext w w'
theorem spec_plan_c (A : Option Addr) (L : List SiteD) (c1 : Nat) (losses left : Int) (w : World) (h1 : Sites w A L) (h : planFault L losses left = (0, 0)) (w1 : World) (x : Ext w w1) (R : Option Addr) (c : Nat) (hs : Sl w1 .i64 R (upTo L.length)) :
    Calls Try.prog 41 #[.slice A L.length c1, .slice none 0 0, .slice R (upTo L.length).length c, .int .i64 losses, .int .i64 left, .int .i64 0] w1 (SRet w1 L (planSt L losses left)) := by
  obtain ⟨a, b, d⟩ := planFault_ok h
  have hl := sitesF_len a
  have := CheapestOf_c A none R L [] (upTo L.length) c1 0 c losses.toNat left 0 w1 a (by rw [upTo_len]; exact hl) (by simp) (by omega) (h1.ext x) (SlC.nil _ _) hs (cost_ok a) upTo_in
  rw [Int.toNat_of_nonneg b.1] at this
  have e : Plain.accC (costF L) (specB L [] losses left 0) (upTo L.length) (2 ^ (upTo L.length).length) = planSt L losses left := by rw [upTo_len]; exact spec_plan L losses left
  rw [e] at this
  exact this
theorem keepFault_cases (L : List SiteD) (need losses : Int) : ((Plain.sitesF L).1 = 0 → keepFault L need losses = if inB need 1 10 = false then (4, -2) else if inB losses 0 12 = false then (4, -3) else (0, 0)) ∧ ((Plain.sitesF L).1 ≠ 0 → keepFault L need losses = Plain.sitesF L) := by
  unfold keepFault
  refine ⟨fun h => if_pos (sitesF_code L h), fun h => if_neg fun e => h (by rw [e])⟩
theorem keepFault_ok {L : List SiteD} {need losses : Int} (h : (keepFault L need losses).1 = 0) : keepFault L need losses = (0, 0) ∧ Plain.sitesF L = (0, 0) ∧ (1 ≤ need ∧ need ≤ 10) ∧ 0 ≤ losses ∧ losses ≤ 12 := by
  unfold keepFault at *
  by_cases hs : Plain.sitesF L = (0, 0)
  · rw [if_pos hs] at h ⊢
    by_cases e1 : inB need 1 10 = false
    · rw [if_pos e1] at h; cases h
    · rw [if_neg e1] at h ⊢
      by_cases e2 : inB losses 0 12 = false
      · rw [if_pos e2] at h; cases h
      · rw [if_neg e2]
        exact ⟨rfl, hs, of_decide_eq_true (Bool.not_eq_false _ ▸ e1 : inB need 1 10 = true), of_decide_eq_true (Bool.not_eq_false _ ▸ e2 : inB losses 0 12 = true)⟩
  · rw [if_neg hs] at h ⊢
    exact absurd (sitesF_code L h) hs
theorem keepFault_code (L : List SiteD) (need losses : Int) (h : (keepFault L need losses).1 = 0) : keepFault L need losses = (0, 0) := (keepFault_ok h).1
theorem keepR_len (L : List SiteD) (need losses : Int) : (keepR L need losses).1.length ≤ maxLen := endR_len (fun h => sitesF_len (keepFault_ok (by rw [h])).2.1) fun _ h => (keep_mem h).1
theorem keepFault_len (L : List SiteD) (need losses : Int) (h : keepFault L need losses = (0, 0)) : L.length ≤ 100000 := by have := sitesF_len (keepFault_ok (by rw [h])).2.1; omega
theorem spec_keep_c (A : Option Addr) (L : List SiteD) (c1 : Nat) (need losses : Int) (w : World) (h1 : Sites w A L) (h : keepFault L need losses = (0, 0)) (w1 : World) (x : Ext w w1) (R : Option Addr) (c : Nat) (hs : Sl w1 .i64 R (upTo L.length)) :
    Calls Try.prog 41 #[.slice A L.length c1, .slice none 0 0, .slice R (upTo L.length).length c, .int .i64 losses, .int .i64 need, .int .i64 need] w1 (SRet w1 L (keepSt L need losses)) := by
  obtain ⟨_, a, d, b⟩ := keepFault_ok (by rw [h])
  have hl := sitesF_len a
  have := CheapestOf_c A none R L [] (upTo L.length) c1 0 c losses.toNat need need w1 a (by rw [upTo_len]; exact hl) (by simp) (by omega) (h1.ext x) (SlC.nil _ _) hs (cost_ok a) upTo_in
  rw [Int.toNat_of_nonneg b.1] at this
  have e : Plain.accC (costF L) (specB L [] losses need need) (upTo L.length) (2 ^ (upTo L.length).length) = keepSt L need losses := by rw [upTo_len]; exact spec_keep L need losses d.1
  rw [e] at this
  exact this
theorem restFault_code (L : List SiteD) (ch lost : List Int) (losses left : Int) (h : (restFault L ch lost losses left).1 = 0) : restFault L ch lost losses left = (0, 0) := by
  unfold restFault at *
  split at h
  · rename_i hs; rw [if_pos hs]; exact (limits_ok h).1
  · rename_i hs; rw [if_neg hs]; exact leftFault_code L ch lost h
theorem restFault_ok {L : List SiteD} {ch lost : List Int} {losses left : Int} (h : restFault L ch lost losses left = (0, 0)) : leftFault L ch lost = (0, 0) ∧ (0 ≤ losses ∧ losses ≤ 12) ∧ 0 ≤ left ∧ left ≤ 10 := by
  unfold restFault at h
  split at h
  · rename_i hs; exact ⟨hs, (limits_ok (by rw [h])).2⟩
  · rename_i hs; exact absurd h hs
theorem restFault_cases (L : List SiteD) (ch lost : List Int) (losses left : Int) : ((leftFault L ch lost).1 = 0 → restFault L ch lost losses left = limitsF losses left (-4)) ∧ ((leftFault L ch lost).1 ≠ 0 → restFault L ch lost losses left = leftFault L ch lost) := by
  unfold restFault
  refine ⟨fun h => if_pos (leftFault_code L ch lost h), fun h => if_neg fun e => h (by rw [e])⟩
theorem rest_mem {L : List SiteD} {ch lost : List Int} {losses left : Int} {b : List Int} (h : restSt L ch lost losses left = some b) : b.Sublist (upTo L.length) := (Plain.accC_mem h).1.trans (free_sub L ch lost)
theorem restR_len (L : List SiteD) (ch lost : List Int) (losses left : Int) : (restR L ch lost losses left).1.length ≤ maxLen := endR_len (fun h => sitesF_len (leftFault_ok' (restFault_ok h).1).1) fun _ h => rest_mem h
theorem restFault_len (L : List SiteD) (ch lost : List Int) (losses left : Int) (h : restFault L ch lost losses left = (0, 0)) : L.length ≤ 100000 := by have := sitesF_len (leftFault_ok' (restFault_ok h).1).1; omega
theorem left_len1 {L : List SiteD} {ch lost : List Int} {losses left : Int} (h : restFault L ch lost losses left = (0, 0)) : (Plain.leftF L (upTo L.length) lost).length ≤ 100000 := by
  have := Plain.leftF_len L (upTo L.length) lost
  rw [upTo_len] at this
  have := restFault_len L ch lost losses left h
  omega
theorem left_len2 {L : List SiteD} {ch lost : List Int} {losses left : Int} (h : restFault L ch lost losses left = (0, 0)) : (Plain.leftF L ch lost).length ≤ maxLen := by
  have := Plain.leftF_len L ch lost
  have := rising_len (leftFault_ok' (restFault_ok h).1).2.1
  have := restFault_len L ch lost losses left h
  unfold maxLen
  omega
theorem spec_rest_c (A : Option Addr) (L : List SiteD) (ch lost : List Int) (c1 : Nat) (losses left : Int) (w : World) (h1 : Sites w A L) (h : restFault L ch lost losses left = (0, 0)) (w1 : World) (x : Ext w w1) (T R : Option Addr) (t c : Nat) (ht : Sl w1 .i64 T (Plain.leftF L ch lost)) (hs : Sl w1 .i64 R (freeF L ch lost)) :
    Calls Try.prog 41 #[.slice A L.length c1, .slice T (Plain.leftF L ch lost).length t, .slice R (freeF L ch lost).length c, .int .i64 losses, .int .i64 left, .int .i64 0] w1 (SRet w1 L (restSt L ch lost losses left)) := by
  obtain ⟨a, b, d⟩ := restFault_ok h
  obtain ⟨a1, a2, a3⟩ := leftFault_ok' a
  have hr : (Plain.leftF L ch lost).length ≤ 1000 := by
    have := Plain.leftF_len L ch lost
    have := rising_len a2
    have := sitesF_len a1
    omega
  have := CheapestOf_c A T R L (Plain.leftF L ch lost) (freeF L ch lost) c1 t c losses.toNat left 0 w1 a1 (free_len a1) hr (by omega) (h1.ext x) ht hs (cost_ok a1) (fun i hi => upTo_in i ((free_sub L ch lost).subset hi))
  rw [Int.toNat_of_nonneg b.1, spec_rest a2] at this
  exact this
end Go.Proofs.Ytbhcaniopdgjkaa
namespace Go.Proofs.Ytbhcaniopdgjkaa
open Go Go.Proofs Go.RowKit
open Plain (SiteD)
set_option maxHeartbeats 4000000
set_option maxRecDepth 100000
theorem holdsFault_cases (L : List SiteD) (ch : List Int) (losses left : Int) : ((Plain.chosenF L ch).1 = 0 → holdsFault L ch losses left = limitsF losses left (-3)) ∧ ((Plain.chosenF L ch).1 ≠ 0 → holdsFault L ch losses left = Plain.chosenF L ch) := by
  unfold holdsFault
  refine ⟨fun h => if_pos (chosenF_code L ch h), fun h => if_neg fun e => h (by rw [e])⟩
theorem holdsFault_code (L : List SiteD) (ch : List Int) (losses left : Int) (h : (holdsFault L ch losses left).1 = 0) : holdsFault L ch losses left = (0, 0) := by
  unfold holdsFault at *
  split at h
  · rename_i hs; rw [if_pos hs]; exact (limits_ok h).1
  · rename_i hs; rw [if_neg hs]; exact chosenF_code L ch h
theorem holdsFault_ok {L : List SiteD} {ch : List Int} {losses left : Int} (h : holdsFault L ch losses left = (0, 0)) : Plain.chosenF L ch = (0, 0) ∧ (0 ≤ losses ∧ losses ≤ 12) ∧ 0 ≤ left ∧ left ≤ 10 := by
  unfold holdsFault at h
  split at h
  · rename_i hs; exact ⟨hs, (limits_ok (by rw [h])).2⟩
  · rename_i hs; exact absurd h hs
theorem spec_holds_c (A C : Option Addr) (L : List SiteD) (ch : List Int) (c1 c2 : Nat) (losses left : Int) (w : World) (h1 : Sites w A L) (h2 : Sl w .i64 C ch) (h : holdsFault L ch losses left = (0, 0)) (w1 : World) (x : Ext w w1) :
    Calls Try.prog 39 #[.slice A L.length c1, .slice C ch.length c2, .int .i64 losses, .int .i64 left] w1 (BRet w1 (holdF L losses left ch)) := by
  obtain ⟨a, b, _⟩ := holdsFault_ok h
  obtain ⟨a1, a2⟩ := chosenF_ok a
  have h10 := sitesF_len a1
  have hcl := rising_len a2
  have := HoldsOf_c A C L ch c1 c2 losses.toNat left w1 (by omega) (by omega) (by omega) (h1.ext x) (h2.ext x) (Plain.risingC_iff.1 a2).2
  rw [Int.toNat_of_nonneg b.1] at this
  exact this
theorem inB_iff {n a b : Int} : inB n a b = true ↔ a ≤ n ∧ n ≤ b := by unfold inB; exact decide_eq_true_iff
theorem planFault_in {L : List SiteD} {losses left : Int} (h1 : inB losses 0 12 = true) (h2 : inB left 0 10 = true) : planFault L losses left = Plain.sitesF L := by
  unfold planFault
  rw [limits_in h1 h2]
  split
  · rename_i h; exact h.symm
  · rfl
theorem planR_not {L : List SiteD} {losses left : Int} (h1 : inB losses 0 12 = true) (h2 : inB left 0 10 = true) : (planR L losses left).2.2.1 = 0 ↔ Plain.sitesF L = (0, 0) ∧ (planSt L losses left).isSome = true := by
  unfold planR endR
  rw [planFault_in h1 h2]
  by_cases hs : Plain.sitesF L = (0, 0)
  · rw [if_pos hs]
    simp only [hs, true_and]
    unfold foundF
    cases (planSt L losses left).isSome <;> simp
  · rw [if_neg hs]
    constructor
    · intro h; exact absurd (sitesF_code L h) hs
    · intro h; exact absurd h.1 hs
theorem planR_some {L : List SiteD} {losses left : Int} (h1 : inB losses 0 12 = true) (h2 : inB left 0 10 = true) (h : (planR L losses left).2.2.1 = 0) : ∃ b, planSt L losses left = some b ∧ planR L losses left = (b, costF L b, (0, 0)) := by
  obtain ⟨a, b⟩ := (planR_not h1 h2).1 h
  obtain ⟨x, hx⟩ := Option.isSome_iff_exists.1 b
  refine ⟨x, hx, ?_⟩
  unfold planR endR
  rw [planFault_in h1 h2, if_pos a, hx]
  rfl
/-- What the plan for more losses, or more sites, says. -/
theorem more_law (L : List SiteD) (losses left losses' left' : Int) (h1 : inB losses 0 12 = true) (h2 : inB left 0 10 = true) (h3 : inB losses' 0 12 = true) (h4 : inB left' 0 10 = true) (a1 : losses ≤ losses') (a2 : left ≤ left') :
    ((planR L losses left).2.2.1 ≠ 0 → (planR L losses' left').2.2.1 ≠ 0) ∧ ((planR L losses left).2.2.1 = 0 → (planR L losses' left').2.2.1 = 0 → (decide (holdsFault L (planR L losses' left').1 losses left = (0, 0)) && holdF L losses left (planR L losses' left').1) = true ∧ (planR L losses left).2.1 ≤ (planR L losses' left').2.1) := by
  obtain ⟨s1, s2⟩ := safety L losses left losses' left' a1 a2
  constructor
  · intro hf hg
    obtain ⟨a, b⟩ := (planR_not h3 h4).1 hg
    apply hf
    rw [planR_not h1 h2]
    refine ⟨a, ?_⟩
    cases h : planSt L losses left with
    | none => rw [s1 h] at b; cases b
    | some x => rfl
  · intro hf hg
    obtain ⟨x, hx, ex⟩ := planR_some h1 h2 hf
    obtain ⟨y, hy, ey⟩ := planR_some h3 h4 hg
    obtain ⟨t1, t2⟩ := s2 x y hx hy
    rw [ex, ey]
    refine ⟨?_, t2⟩
    have hs := ((planR_not h1 h2).1 hf).1
    have hc := sub_upTo_chosen hs (plan_mem hy).1
    have : holdsFault L y losses left = (0, 0) := by
      unfold holdsFault
      rw [if_pos hc]
      exact limits_in h1 h2
    simp only
    rw [this, t1]
    rfl
theorem tell_law (L : List SiteD) (need losses zone : Int) (h : (keepR L need losses).2.2.1 = 0) (hz : 0 ≤ zone ∧ zone ≤ 11) :
    leftFault L (keepR L need losses).1 [zone] = (0, 0) ∧ ((keepR L need losses).1.length : Int) - (Plain.leftF L (keepR L need losses).1 [zone]).length < need ∧ (losses = 0 ∨ need ≤ ((Plain.leftF L (keepR L need losses).1 [zone]).length : Int)) ∧ (keepR L need losses).1.length ≤ 10 := by
  have hk : keepFault L need losses = (0, 0) := by
    cases Classical.em (keepFault L need losses = (0, 0)) with
    | inl h => exact h
    | inr hn =>
      unfold keepR endR at h
      rw [if_neg hn] at h
      exact absurd (keepFault_code L need losses h) hn
  obtain ⟨_, hs, hn, hl⟩ := keepFault_ok (by rw [hk])
  unfold keepR endR at h ⊢
  rw [if_pos hk] at h ⊢
  simp only at h ⊢
  cases hst : keepSt L need losses with
  | none => rw [hst] at h; cases h
  | some b =>
    obtain ⟨hb, hp⟩ := keep_mem hst
    simp only [Option.getD_some]
    unfold keepB at hp
    rw [Bool.and_eq_true] at hp
    have hc := sub_upTo_chosen hs hb
    have hlz := Plain.left_zone L b zone
    have hap : (Plain.inZone L b zone : Int) < need := by
      have := hp.1
      unfold Plain.apartF at this
      exact of_decide_eq_true (List.all_eq_true.1 this zone (Plain.mem_range_int.2 (by omega)))
    have hh := of_decide_eq_true hp.2
    refine ⟨?_, by omega, ?_, ?_⟩
    · unfold leftFault
      have hr : Plain.risingC [zone] 12 = 0 := Plain.risingC_iff.2 ⟨by simp, by simp; omega⟩
      rw [if_neg (by simpa using hc), if_neg (by simpa using hr)]
    · by_cases h0 : losses = 0
      · exact .inl h0
      · right
        have := Plain.few_le_left (l := L) hs (chosen := b) (losses := losses.toNat) (by omega) zone
        omega
    · have := sub_len hb
      have := sitesF_len hs
      omega
theorem keepR_nil (L : List SiteD) (need losses : Int) (h : (keepR L need losses).2.2.1 ≠ 0) : (keepR L need losses).1 = [] := by
  unfold keepR endR at *
  split
  · rename_i hk
    rw [if_pos hk] at h
    cases hst : keepSt L need losses with
    | none => rfl
    | some b => rw [hst] at h; exact absurd rfl h
  · rfl
end Go.Proofs.Ytbhcaniopdgjkaa
