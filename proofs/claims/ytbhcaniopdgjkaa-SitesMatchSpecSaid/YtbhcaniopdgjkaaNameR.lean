import Derived.Test.YtbhcaniopdgjkaaMergeR
namespace Go.Proofs.Ytbhcaniopdgjkaa
open Go Go.Proofs Go.RowKit
set_option maxHeartbeats 1600000
set_option maxRecDepth 100000
theorem take_snoc (s : ByteArray) (k : Nat) (h : k < s.size) : s.data.toList.take (k + 1) = s.data.toList.take k ++ [s[k]] := by
  rw [List.take_succ_eq_append_getElem (by simpa using h)]; rfl
/-- A byte may stand in a name. -/
def okN (c : Nat) : Bool := inB c 97 122 || inB c 48 57 || decide ((c : Int) = 45) || decide ((c : Int) = 46) || decide ((c : Int) = 95)
theorem okN_ok (c : UInt8) : Plain.okChar c = okN c.toNat := by
  unfold Plain.okChar okN inB
  rw [Bool.eq_iff_iff]
  simp [UInt8.le_iff_toNat_le, ← UInt8.toNat_inj]
  omega
def namesTo (s : ByteArray) (k : Nat) : Prop := (s.data.toList.take k).all Plain.okChar = true
theorem names_next {s : ByteArray} {k : Nat} (h : namesTo s k) (hk : k < s.size) (hc : okN s[k].toNat = true) : namesTo s (k + 1) := by
  unfold namesTo at *
  rw [take_snoc s k hk, List.all_append, h]
  simp [okN_ok, hc]
theorem names_bad {s : ByteArray} {k : Nat} (hk : k < s.size) (hc : okN s[k].toNat = false) : Plain.nameB s.data.toList = false := by
  unfold Plain.nameB
  have : s.data.toList.all Plain.okChar = false := by
    rw [← Bool.not_eq_true, List.all_eq_true]
    intro hall
    have hm : s[k] ∈ s.data.toList := by
      have := List.getElem_mem (l := s.data.toList) (n := k) (by simpa using hk)
      exact this
    have := hall _ hm
    rw [okN_ok, hc] at this
    cases this
  rw [this]; simp
theorem first_list (s : ByteArray) (h : 0 < s.size) : ∃ r, s.data.toList = s[0] :: r := by
  have hl : 0 < s.data.toList.length := by simpa using h
  refine ⟨s.data.toList.tail, ?_⟩
  cases hc : s.data.toList with
  | nil => rw [hc] at hl; simp at hl
  | cons x r =>
    have : s[0] = x := by
      have h1 : s[0] = s.data.toList[0] := rfl
      rw [h1]; simp [hc]
    rw [this]; rfl
theorem name_first {s : ByteArray} (h : 0 < s.size) (hc : inB s[0].toNat 97 122 = false) : Plain.nameB s.data.toList = false := by
  obtain ⟨r, hr⟩ := first_list s h
  have hq : ((97 : UInt8) ≤ s[0] && s[0] ≤ (122 : UInt8)) = false := by
    unfold inB at hc
    rw [← Bool.not_eq_true]
    simp [UInt8.le_iff_toNat_le] at hc ⊢
    omega
  unfold Plain.nameB
  rw [hr]
  simp only [hq]
  simp
theorem name_good {s : ByteArray} (h : 0 < s.size) (h32 : s.size ≤ 32) (hc : inB s[0].toNat 97 122 = true) {k : Nat} (hk : s.size ≤ k) (ha : namesTo s k) : Plain.nameB s.data.toList = true := by
  obtain ⟨r, hr⟩ := first_list s h
  have hq : ((97 : UInt8) ≤ s[0] && s[0] ≤ (122 : UInt8)) = true := by
    unfold inB at hc
    simp [UInt8.le_iff_toNat_le] at hc ⊢
    omega
  have hlen : s.data.toList.length = s.size := by simp
  unfold namesTo at ha
  rw [List.take_of_length_le (by rw [hlen]; exact hk)] at ha
  unfold Plain.nameB
  rw [ha, hlen, decide_eq_true (show 1 ≤ s.size by omega), decide_eq_true h32, hr]
  simp only [hq]
  rfl
theorem wrap_byte (c : UInt8) : wrap64 (c.toNat : Int) = (c.toNat : Int) := IntWalk.wrap64_in _ ⟨by omega, by have := c.toNat_lt; omega⟩
theorem IsName_c (s : ByteArray) (w : World) (hl : s.size ≤ maxLen) : Calls Try.prog 53 #[.string s] w fun e w' => e = .returned (.bool (Plain.nameB s.data.toList)) ∧ w = w' := by
  unfold maxLen at hl
  obtain ⟨r, hr⟩ : ∃ r, Plain.nameB s.data.toList = r := ⟨_, rfl⟩
  rw [hr]
  have HR := Lib.hid hr
  clear hr
  by_cases h0 : s.size < 1
  · have HF : Hid (r = false) := by
      show r = false
      rw [← HR.out]; unfold Plain.nameB
      have : s.data.toList.length = s.size := by simp
      rw [this, decide_eq_false (by omega)]; simp
    go_enter Try.func53, Try.ntmps53
    go_wp2
    go_ret
    exact ⟨ret_bool HF.out.symm, rfl⟩
  by_cases h2 : 32 < s.size
  · have HF : Hid (r = false) := by
      show r = false
      rw [← HR.out]; unfold Plain.nameB
      have : s.data.toList.length = s.size := by simp
      rw [this, decide_eq_false (show ¬ s.size ≤ 32 by omega)]; simp
    go_enter Try.func53, Try.ntmps53
    go_wp2
    go_ret
    exact ⟨ret_bool HF.out.symm, rfl⟩
  have h0s : 0 < s.size := by omega
  have h32 : s.size ≤ 32 := by omega
  have w0 := wrap_byte s[0]
  cases hf : inB s[0].toNat 97 122 with
  | false =>
    have HF := Lib.hid ((name_first h0s hf).symm.trans HR.out)
    go_enter Try.func53, Try.ntmps53
    go_wp2_with (go_at_call 29; refine (In_c _ _ _ _).mono ?_; rintro e w' ⟨rfl, rfl⟩)
    go_ret
    exact ⟨ret_bool HF.out, rfl⟩
  | true =>
    have HG := Lib.hid (fun (k : Nat) (hk : s.size ≤ k) (ha : namesTo s k) => (name_good h0s h32 hf hk ha).symm.trans HR.out)
    have HB := Lib.hid (fun (k : Nat) (hk : k < s.size) (hc : okN s[k].toNat = false) => (names_bad hk hc).symm.trans HR.out)
    go_enter Try.func53, Try.ntmps53
    go_wp2_with (go_at_call 29; refine (In_c _ _ _ _).mono ?_; rintro e w' ⟨rfl, rfl⟩)
    clear hf w0
    go_loop [3] (fun i => ∃ k : Nat, k ≤ s.size ∧ i = .int .i64 k ∧ namesTo s k) (fun i => s.size - (intOf i).toNat)
    case atStart => exact ⟨0, Nat.zero_le _, rfl, by simp [namesTo]⟩
    case round =>
      obtain ⟨k, hk, rfl, hr⟩ := hrel
      have HN := Lib.hid hr
      clear hr
      by_cases hlt : k < s.size
      · have wk := wrap_byte s[k]
        cases g1 : inB s[k].toNat 97 122 with
        | true =>
          have HX := Lib.hid (names_next HN.out hlt (by unfold okN; rw [g1]; simp))
          go_wp2_with (go_at_call 29; refine (In_c _ _ _ _).mono ?_; rintro e w' ⟨rfl, rfl⟩)
          refine ⟨⟨k + 1, by omega, by go_num, HX.out⟩, by simp [intOf]; omega⟩
        | false =>
          cases g2 : inB s[k].toNat 48 57 with
          | true =>
            have HX := Lib.hid (names_next HN.out hlt (by unfold okN; rw [g2]; simp))
            go_wp2_with (go_at_call 29; refine (In_c _ _ _ _).mono ?_; rintro e w' ⟨rfl, rfl⟩)
            refine ⟨⟨k + 1, by omega, by go_num, HX.out⟩, by simp [intOf]; omega⟩
          | false =>
            by_cases g3 : (s[k].toNat : Int) = 45
            · have f3 : ((s[k].toNat : Int) != 45) = false := by simpa using g3
              have HX := Lib.hid (names_next HN.out hlt (by unfold okN; rw [decide_eq_true g3]; simp))
              clear g3
              go_wp2_with (go_at_call 29; refine (In_c _ _ _ _).mono ?_; rintro e w' ⟨rfl, rfl⟩)
              refine ⟨⟨k + 1, by omega, by go_num, HX.out⟩, by simp [intOf]; omega⟩
            · have f3 : ((s[k].toNat : Int) != 45) = true := by simpa using g3
              by_cases g4 : (s[k].toNat : Int) = 46
              · have f4 : ((s[k].toNat : Int) != 46) = false := by simpa using g4
                have HX := Lib.hid (names_next HN.out hlt (by unfold okN; rw [decide_eq_true g4]; simp))
                clear g3 g4
                go_wp2_with (go_at_call 29; refine (In_c _ _ _ _).mono ?_; rintro e w' ⟨rfl, rfl⟩)
                refine ⟨⟨k + 1, by omega, by go_num, HX.out⟩, by simp [intOf]; omega⟩
              · have f4 : ((s[k].toNat : Int) != 46) = true := by simpa using g4
                by_cases g5 : (s[k].toNat : Int) = 95
                · have f5 : ((s[k].toNat : Int) != 95) = false := by simpa using g5
                  have HX := Lib.hid (names_next HN.out hlt (by unfold okN; rw [decide_eq_true g5]; simp))
                  clear g3 g4 g5
                  go_wp2_with (go_at_call 29; refine (In_c _ _ _ _).mono ?_; rintro e w' ⟨rfl, rfl⟩)
                  refine ⟨⟨k + 1, by omega, by go_num, HX.out⟩, by simp [intOf]; omega⟩
                · have f5 : ((s[k].toNat : Int) != 95) = true := by simpa using g5
                  have HC := Lib.hid (HB.out k hlt (by unfold okN; rw [g1, g2, decide_eq_false g3, decide_eq_false g4, decide_eq_false g5]; rfl))
                  clear g3 g4 g5
                  go_wp2_with (go_at_call 29; refine (In_c _ _ _ _).mono ?_; rintro e w' ⟨rfl, rfl⟩)
                  go_ret
                  exact ⟨ret_bool HC.out, rfl⟩
      · have HC := Lib.hid (HG.out k (by omega) HN.out)
        go_wp2
        go_ret
        exact ⟨ret_bool HC.out, rfl⟩
end Go.Proofs.Ytbhcaniopdgjkaa
