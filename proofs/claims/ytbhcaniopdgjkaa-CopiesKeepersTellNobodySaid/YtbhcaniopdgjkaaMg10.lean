import Derived.Test.YtbhcaniopdgjkaaMg9
import Derived.Test.YtbhcaniopdgjkaaMg8
import Derived.Test.YtbhcaniopdgjkaaRows
import Derived.Test.YtbhcaniopdgjkaaMg7
import Derived.Deep.DeepHandedRow
namespace Go.Proofs.Ytbhcaniopdgjkaa
open Go Go.Proofs Go.RowKit
set_option maxHeartbeats 1600000
set_option maxRecDepth 100000
theorem take_snoc (s : ByteArray) (k : Nat) (h : k < s.size) : s.data.toList.take (k + 1) = s.data.toList.take k ++ [s[k]] := by
  rw [List.take_succ_eq_append_getElem (by simpa using h)]; rfl
/-- A byte may stand in a name. -/
def okN (c : Nat) : Bool := inB c 97 122 || inB c 48 57 || decide ((c : Int) = 45) || decide ((c : Int) = 46) || decide ((c : Int) = 95)
theorem okN_ok (c : UInt8) : Plain.okChar c = okN c.toNat := by
  unfold Plain.okChar okN inB
  rw [Bool.eq_iff_iff]
  simp [UInt8.le_iff_toNat_le, ← UInt8.toNat_inj]
  omega
def namesTo (s : ByteArray) (k : Nat) : Prop := (s.data.toList.take k).all Plain.okChar = true
theorem names_next {s : ByteArray} {k : Nat} (h : namesTo s k) (hk : k < s.size) (hc : okN s[k].toNat = true) : namesTo s (k + 1) := by
  unfold namesTo at *
  rw [take_snoc s k hk, List.all_append, h]
  simp [okN_ok, hc]
theorem names_bad {s : ByteArray} {k : Nat} (hk : k < s.size) (hc : okN s[k].toNat = false) : Plain.nameB s.data.toList = false := by
  unfold Plain.nameB
  have : s.data.toList.all Plain.okChar = false := by
    rw [← Bool.not_eq_true, List.all_eq_true]
    intro hall
    have hm : s[k] ∈ s.data.toList := by
      have := List.getElem_mem (l := s.data.toList) (n := k) (by simpa using hk)
      exact this
    have := hall _ hm
    rw [okN_ok, hc] at this
    cases this
  rw [this]; simp
theorem first_list (s : ByteArray) (h : 0 < s.size) : ∃ r, s.data.toList = s[0] :: r := by
  have hl : 0 < s.data.toList.length := by simpa using h
  refine ⟨s.data.toList.tail, ?_⟩
  cases hc : s.data.toList with
  | nil => rw [hc] at hl; simp at hl
  | cons x r =>
    have : s[0] = x := by
      have h1 : s[0] = s.data.toList[0] := rfl
      rw [h1]; simp [hc]
    rw [this]; rfl
theorem name_first {s : ByteArray} (h : 0 < s.size) (hc : inB s[0].toNat 97 122 = false) : Plain.nameB s.data.toList = false := by
  obtain ⟨r, hr⟩ := first_list s h
  have hq : ((97 : UInt8) ≤ s[0] && s[0] ≤ (122 : UInt8)) = false := by
    unfold inB at hc
    rw [← Bool.not_eq_true]
    simp [UInt8.le_iff_toNat_le] at hc ⊢
    omega
  unfold Plain.nameB
  rw [hr]
  simp only [hq]
  simp
theorem name_good {s : ByteArray} (h : 0 < s.size) (h32 : s.size ≤ 32) (hc : inB s[0].toNat 97 122 = true) {k : Nat} (hk : s.size ≤ k) (ha : namesTo s k) : Plain.nameB s.data.toList = true := by
  obtain ⟨r, hr⟩ := first_list s h
  have hq : ((97 : UInt8) ≤ s[0] && s[0] ≤ (122 : UInt8)) = true := by
    unfold inB at hc
    simp [UInt8.le_iff_toNat_le] at hc ⊢
    omega
  have hlen : s.data.toList.length = s.size := by simp
  unfold namesTo at ha
  rw [List.take_of_length_le (by rw [hlen]; exact hk)] at ha
  unfold Plain.nameB
  rw [ha, hlen, decide_eq_true (show 1 ≤ s.size by omega), decide_eq_true h32, hr]
  simp only [hq]
  rfl
theorem wrap_byte (c : UInt8) : wrap64 (c.toNat : Int) = (c.toNat : Int) := IntWalk.wrap64_in _ ⟨by omega, by have := c.toNat_lt; omega⟩
theorem IsName_c (s : ByteArray) (w : World) (hl : s.size ≤ maxLen) : Calls Try.prog 53 #[.string s] w fun e w' => e = .returned (.bool (Plain.nameB s.data.toList)) ∧ w = w' := by
  unfold maxLen at hl
  obtain ⟨r, hr⟩ : ∃ r, Plain.nameB s.data.toList = r := ⟨_, rfl⟩
  rw [hr]
  have HR := Lib.hid hr
  clear hr
  by_cases h0 : s.size < 1
  · have HF : Hid (r = false) := by
      show r = false
      rw [← HR.out]; unfold Plain.nameB
      have : s.data.toList.length = s.size := by simp
      rw [this, decide_eq_false (by omega)]; simp
    go_enter Try.func53, Try.ntmps53
    go_wp2
    go_ret
    exact ⟨ret_bool HF.out.symm, rfl⟩
  by_cases h2 : 32 < s.size
  · have HF : Hid (r = false) := by
      show r = false
      rw [← HR.out]; unfold Plain.nameB
      have : s.data.toList.length = s.size := by simp
      rw [this, decide_eq_false (show ¬ s.size ≤ 32 by omega)]; simp
    go_enter Try.func53, Try.ntmps53
    go_wp2
    go_ret
    exact ⟨ret_bool HF.out.symm, rfl⟩
  have h0s : 0 < s.size := by omega
  have h32 : s.size ≤ 32 := by omega
  have w0 := wrap_byte s[0]
  cases hf : inB s[0].toNat 97 122 with
  | false =>
    have HF := Lib.hid ((name_first h0s hf).symm.trans HR.out)
    go_enter Try.func53, Try.ntmps53
    go_wp2_with (go_at_call 29; refine (In_c _ _ _ _).mono ?_; rintro e w' ⟨rfl, rfl⟩)
    go_ret
    exact ⟨ret_bool HF.out, rfl⟩
  | true =>
    have HG := Lib.hid (fun (k : Nat) (hk : s.size ≤ k) (ha : namesTo s k) => (name_good h0s h32 hf hk ha).symm.trans HR.out)
    have HB := Lib.hid (fun (k : Nat) (hk : k < s.size) (hc : okN s[k].toNat = false) => (names_bad hk hc).symm.trans HR.out)
    go_enter Try.func53, Try.ntmps53
    go_wp2_with (go_at_call 29; refine (In_c _ _ _ _).mono ?_; rintro e w' ⟨rfl, rfl⟩)
    clear hf w0
    go_loop [3] (fun i => ∃ k : Nat, k ≤ s.size ∧ i = .int .i64 k ∧ namesTo s k) (fun i => s.size - (intOf i).toNat)
    case atStart => exact ⟨0, Nat.zero_le _, rfl, by simp [namesTo]⟩
    case round =>
      obtain ⟨k, hk, rfl, hr⟩ := hrel
      have HN := Lib.hid hr
      clear hr
      by_cases hlt : k < s.size
      · have wk := wrap_byte s[k]
        cases g1 : inB s[k].toNat 97 122 with
        | true =>
          have HX := Lib.hid (names_next HN.out hlt (by unfold okN; rw [g1]; simp))
          go_wp2_with (go_at_call 29; refine (In_c _ _ _ _).mono ?_; rintro e w' ⟨rfl, rfl⟩)
          refine ⟨⟨k + 1, by omega, by go_num, HX.out⟩, by simp [intOf]; omega⟩
        | false =>
          cases g2 : inB s[k].toNat 48 57 with
          | true =>
            have HX := Lib.hid (names_next HN.out hlt (by unfold okN; rw [g2]; simp))
            go_wp2_with (go_at_call 29; refine (In_c _ _ _ _).mono ?_; rintro e w' ⟨rfl, rfl⟩)
            refine ⟨⟨k + 1, by omega, by go_num, HX.out⟩, by simp [intOf]; omega⟩
          | false =>
            by_cases g3 : (s[k].toNat : Int) = 45
            · have f3 : ((s[k].toNat : Int) != 45) = false := by simpa using g3
              have HX := Lib.hid (names_next HN.out hlt (by unfold okN; rw [decide_eq_true g3]; simp))
              clear g3
              go_wp2_with (go_at_call 29; refine (In_c _ _ _ _).mono ?_; rintro e w' ⟨rfl, rfl⟩)
              refine ⟨⟨k + 1, by omega, by go_num, HX.out⟩, by simp [intOf]; omega⟩
            · have f3 : ((s[k].toNat : Int) != 45) = true := by simpa using g3
              by_cases g4 : (s[k].toNat : Int) = 46
              · have f4 : ((s[k].toNat : Int) != 46) = false := by simpa using g4
                have HX := Lib.hid (names_next HN.out hlt (by unfold okN; rw [decide_eq_true g4]; simp))
                clear g3 g4
                go_wp2_with (go_at_call 29; refine (In_c _ _ _ _).mono ?_; rintro e w' ⟨rfl, rfl⟩)
                refine ⟨⟨k + 1, by omega, by go_num, HX.out⟩, by simp [intOf]; omega⟩
              · have f4 : ((s[k].toNat : Int) != 46) = true := by simpa using g4
                by_cases g5 : (s[k].toNat : Int) = 95
                · have f5 : ((s[k].toNat : Int) != 95) = false := by simpa using g5
                  have HX := Lib.hid (names_next HN.out hlt (by unfold okN; rw [decide_eq_true g5]; simp))
                  clear g3 g4 g5
                  go_wp2_with (go_at_call 29; refine (In_c _ _ _ _).mono ?_; rintro e w' ⟨rfl, rfl⟩)
                  refine ⟨⟨k + 1, by omega, by go_num, HX.out⟩, by simp [intOf]; omega⟩
                · have f5 : ((s[k].toNat : Int) != 95) = true := by simpa using g5
                  have HC := Lib.hid (HB.out k hlt (by unfold okN; rw [g1, g2, decide_eq_false g3, decide_eq_false g4, decide_eq_false g5]; rfl))
                  clear g3 g4 g5
                  go_wp2_with (go_at_call 29; refine (In_c _ _ _ _).mono ?_; rintro e w' ⟨rfl, rfl⟩)
                  go_ret
                  exact ⟨ret_bool HC.out, rfl⟩
      · have HC := Lib.hid (HG.out k (by omega) HN.out)
        go_wp2
        go_ret
        exact ⟨ret_bool HC.out, rfl⟩
end Go.Proofs.Ytbhcaniopdgjkaa
namespace Go.Proofs.Ytbhcaniopdgjkaa
open Go Go.Proofs Go.RowKit
set_option maxHeartbeats 1600000
set_option maxRecDepth 100000
/-- The length variable of the library's search holds a number. -/
def Glob (w : World) : Prop := ∃ m, w.cell? ⟨0, 0, none⟩ = some (.int .i64 m)
theorem Glob.ext {w w' : World} (h : Glob w) (e : Ext w w') : Glob w' := by
  obtain ⟨m, h⟩ := h; exact ⟨m, e.cell h⟩
def dashB (c : Nat) : Bool := decide ((c : Int) = 45) || decide ((c : Int) = 95) || decide ((c : Int) = 46)
theorem dash_one : ∀ n : Fin 128, decide (0 ≤ Lib.indexByte [45, 95, 46] (UInt8.ofNat n.val)) = dashB n.val := by decide
theorem dash_two : ∀ n : Fin 256, 128 ≤ n.val → Lib.contains [45, 95, 46] (Utf8.encode (n.val : Int)).data.toList = dashB n.val := by decide
theorem enc_one : ∀ n : Fin 128, Utf8.encode (n.val : Int) = ⟨#[UInt8.ofNat n.val]⟩ := by decide
theorem dash_c (c : UInt8) (w : World) (hg : Glob w) : Calls Try.prog 87 #[.string ⟨#[45, 95, 46]⟩, .string (Utf8.encode (c.toNat : Int))] w fun e w' => e = .returned (.bool (dashB c.toNat)) ∧ w' = w := by
  obtain ⟨m, hm⟩ := hg
  by_cases h : c.toNat < 128
  · have := enc_one ⟨c.toNat, h⟩
    simp only at this
    rw [this]
    have h2 := dash_one ⟨c.toNat, h⟩
    simp only at h2
    rw [← h2]
    exact Try.strings_Contains_one ⟨#[45, 95, 46]⟩ _ w
  · have h2 := dash_two ⟨c.toNat, c.toNat_lt⟩ (by simp; omega)
    simp only at h2
    rw [← h2]
    exact Try.strings_Contains ⟨#[45, 95, 46]⟩ _ m w (by decide) hm
theorem bytes_of (s : ByteArray) (w : World) : ∃ w1 c, (convert 9 97 (.string s)).run Try.prog w = .ok (.slice (some ⟨w.heap.size, 0, none⟩) s.size c) w1 ∧ Ext w w1 ∧ ∀ i (h : i < s.size), w1.cell? ⟨w.heap.size, i, none⟩ = some (.int .u8 (s[i].toNat : Int)) := by
  refine ⟨_, _, run_bytes_of_string w 9 97 5 s Try.underlying9 Try.underlying97 Try.underlying5, ?_, ?_⟩
  · exact ((Ext.refl w).drew).alloc _
  · intro i h
    have hb := bytesRow_at s (grownCap w s.size 0 5) i h
    generalize bytesRow s (grownCap w s.size 0 5) = R at *
    show (w.drew.alloc (.cells R 5 (R.size, R.size + 1))).cell? ⟨w.drew.heap.size, i, none⟩ = _
    generalize w.drew = v
    unfold World.cell? World.alloc
    simp [hb]
    rfl
theorem name_empty (s : ByteArray) (h : s.size < 1) : Plain.nameB s.data.toList = false := by
  unfold Plain.nameB
  have : s.data.toList.length = s.size := by simp
  rw [this, decide_eq_false (by omega)]; simp
theorem name_long (s : ByteArray) (h : 32 < s.size) : Plain.nameB s.data.toList = false := by
  unfold Plain.nameB
  have : s.data.toList.length = s.size := by simp
  rw [this, decide_eq_false (show ¬ s.size ≤ 32 by omega)]; simp
theorem dash_no {n : Nat} (h : (122 : Int) < n) : dashB n = false := by
  unfold dashB
  rw [decide_eq_false (by omega), decide_eq_false (by omega), decide_eq_false (by omega)]; rfl
theorem okN_no {n : Nat} (h : (122 : Int) < n) : okN n = false := by
  unfold okN inB
  rw [decide_eq_false (by omega), decide_eq_false (by omega), decide_eq_false (by omega), decide_eq_false (by omega), decide_eq_false (by omega)]; rfl
theorem okN_yes {n : Nat} (h : (97 : Int) ≤ n) (h2 : (n : Int) ≤ 122) : okN n = true := by
  unfold okN inB
  rw [decide_eq_true ⟨h, h2⟩]; rfl
theorem isName_c (s : ByteArray) (w : World) (hl : s.size ≤ maxLen) (hg : Glob w) : Calls Try.prog 55 #[.string s] w fun e w' => e = .returned (.bool (Plain.nameB s.data.toList)) ∧ Ext w w' := by
  unfold maxLen at hl
  obtain ⟨r, hr⟩ : ∃ r, Plain.nameB s.data.toList = r := ⟨_, rfl⟩
  rw [hr]
  have HR := Lib.hid hr
  clear hr
  by_cases h0 : s.size < 1
  · have HF := Lib.hid ((name_empty s h0).symm.trans HR.out)
    have hs : s = ⟨#[]⟩ := by
      obtain ⟨d⟩ := s
      simp [ByteArray.size] at h0
      rw [h0]
    subst hs
    clear h0 hl
    go_enter Try.func55, Try.ntmps55
    go_wp2
    go_ret
    exact ⟨ret_bool HF.out, Ext.refl _⟩
  have hne : s.toList.isEmpty = false := by
    rw [ByteArray.toList_eq]
    obtain ⟨d⟩ := s
    simp [ByteArray.size] at h0 ⊢
    exact h0
  by_cases h2 : 32 < s.size
  · have HF := Lib.hid ((name_long s h2).symm.trans HR.out)
    go_enter Try.func55, Try.ntmps55
    go_wp2
    go_ret
    exact ⟨ret_bool HF.out, Ext.refl _⟩
  have h0s : 0 < s.size := by omega
  have h32 : s.size ≤ 32 := by omega
  cases hf : inB s[0].toNat 97 122 with
  | false =>
    have HF := Lib.hid ((name_first h0s hf).symm.trans HR.out)
    unfold inB at hf
    have hf2 := of_decide_eq_false hf
    clear hf
    by_cases h97 : (s[0].toNat : Int) < 97
    · go_enter Try.func55, Try.ntmps55
      go_wp2
      go_ret
      exact ⟨ret_bool HF.out, Ext.refl _⟩
    · have h122 : (122 : Int) < s[0].toNat := by omega
      go_enter Try.func55, Try.ntmps55
      go_wp2
      go_ret
      exact ⟨ret_bool HF.out, Ext.refl _⟩
  | true =>
    have HG := Lib.hid (fun (k : Nat) (hk : s.size ≤ k) (ha : namesTo s k) => (name_good h0s h32 hf hk ha).symm.trans HR.out)
    have HB := Lib.hid (fun (k : Nat) (hk : k < s.size) (hc : okN s[k].toNat = false) => (names_bad hk hc).symm.trans HR.out)
    unfold inB at hf
    obtain ⟨h97, h122⟩ := of_decide_eq_true hf
    clear hf
    obtain ⟨w1, c1, hcv, hx1, hcell⟩ := bytes_of s w
    have HG1 := Lib.hid (hg.ext hx1)
    have HX1 := Lib.hid hx1
    have HCE := Lib.hid hcell
    clear hx1 hcell hg
    go_enter Try.func55, Try.ntmps55
    go_wp2
    clear hcv
    go_loop [25] (fun i => ∃ k : Nat, k ≤ s.size ∧ i = .int .i64 k ∧ namesTo s k) (fun i => s.size - (intOf i).toNat)
    case atStart => exact ⟨0, Nat.zero_le _, rfl, by simp [namesTo]⟩
    case round =>
      obtain ⟨k, hk, rfl, hr⟩ := hrel
      have HN := Lib.hid hr
      clear hr
      by_cases hlt : k < s.size
      · have hce := HCE.out k hlt
        have HD := Lib.hid (dash_c s[k] w1 HG1.out)
        have HNX := Lib.hid (fun h => names_next HN.out hlt h)
        have HBX := Lib.hid (fun h => HB.out k hlt h)
        obtain ⟨n, hn⟩ : ∃ n : Nat, n = s[k].toNat := ⟨_, rfl⟩
        have hn2 : (n : Int) < 256 := by rw [hn]; have := s[k].toNat_lt; omega
        rw [← hn] at hce HD HNX HBX
        clear hn
        by_cases g1 : (n : Int) < 97
        · by_cases g3 : (n : Int) < 48
          · cases g5 : dashB n with
            | true =>
              have HX := Lib.hid (HNX.out (by unfold dashB at g5; unfold okN; simp at g5 ⊢; omega))
              rw [g5] at HD; clear g5
              go_wp2_with (go_at_call 87; refine HD.out.mono ?_; rintro e w' ⟨rfl, rfl⟩)
              refine ⟨⟨k + 1, by omega, by go_num, HX.out⟩, by simp [intOf]; omega⟩
            | false =>
              have HX := Lib.hid (HBX.out (by unfold dashB at g5; unfold okN inB; simp at g5 ⊢; omega))
              rw [g5] at HD; clear g5
              go_wp2_with (go_at_call 87; refine HD.out.mono ?_; rintro e w' ⟨rfl, rfl⟩)
              go_ret
              exact ⟨ret_bool HX.out, HX1.out⟩
          · by_cases g4 : (57 : Int) < n
            · cases g5 : dashB n with
              | true =>
                have HX := Lib.hid (HNX.out (by unfold dashB at g5; unfold okN; simp at g5 ⊢; omega))
                rw [g5] at HD; clear g5
                go_wp2_with (go_at_call 87; refine HD.out.mono ?_; rintro e w' ⟨rfl, rfl⟩)
                refine ⟨⟨k + 1, by omega, by go_num, HX.out⟩, by simp [intOf]; omega⟩
              | false =>
                have HX := Lib.hid (HBX.out (by unfold dashB at g5; unfold okN inB; simp at g5 ⊢; omega))
                rw [g5] at HD; clear g5
                go_wp2_with (go_at_call 87; refine HD.out.mono ?_; rintro e w' ⟨rfl, rfl⟩)
                go_ret
                exact ⟨ret_bool HX.out, HX1.out⟩
            · have HX := Lib.hid (HNX.out (by unfold okN inB; simp; omega))
              go_wp2_with (go_at_call 87; refine HD.out.mono ?_; rintro e w' ⟨rfl, rfl⟩)
              refine ⟨⟨k + 1, by omega, by go_num, HX.out⟩, by simp [intOf]; omega⟩
        · by_cases g2 : (122 : Int) < n
          · have g3 : ¬ (n : Int) < 48 := by omega
            have g4 : (57 : Int) < n := by omega
            have g5 : dashB n = false := dash_no g2
            have HX := Lib.hid (HBX.out (okN_no g2))
            rw [g5] at HD; clear g5
            go_wp2_with (go_at_call 87; refine HD.out.mono ?_; rintro e w' ⟨rfl, rfl⟩)
            go_ret
            exact ⟨ret_bool HX.out, HX1.out⟩
          · have HX := Lib.hid (HNX.out (okN_yes (Int.not_lt.mp g1) (Int.not_lt.mp g2)))
            go_wp2_with (go_at_call 87; refine HD.out.mono ?_; rintro e w' ⟨rfl, rfl⟩)
            refine ⟨⟨k + 1, by omega, by go_num, HX.out⟩, by simp [intOf]; omega⟩
      · have HC := Lib.hid (HG.out k (by omega) HN.out)
        go_wp2
        go_ret
        exact ⟨ret_bool HC.out, HX1.out⟩
end Go.Proofs.Ytbhcaniopdgjkaa
/- What the claims on sites and copies share: a world and arguments that meet the rows, and that every call of a law that answers true meets its row. -/
namespace Go.Proofs.Ytbhcaniopdgjkaa
open Go Go.ChangeShapes Go.WideShapes Go.ChangeAt Go.RowKit
set_option maxRecDepth 100000
theorem own : ownKnob Try.prog.godebug = none := by kernel_rfl
theorem laidOut : laidOutB Try.prog = true := by kernel_rfl
theorem glob_of {W : World} (h : W.ShapedOpen Try.prog) : Glob W := by
  obtain ⟨m, hm⟩ := Try.laysM219.s1_3 W h
  exact ⟨m, hm⟩
noncomputable def firstWorld (os : Os) : World := World.holding Try.prog os ⟨#[], #[], []⟩
section
variable {H : Type} {enc : TypeId × Value → H} {W : World} {base : Nat} {sp : Nat → Bool} {held : Bool} {r : Reach} {b0 : Nat} {v : Value} {d : DataW H} {ps : List MemPlace}
theorem arg_sites (hval : Value.okWide Try.prog W r b0 22 v) (hd : DataW.Trod enc Try.prog W base sp held 22 v d ps) : ∃ A L c, v = .slice A L.length c ∧ L.length ≤ c ∧ c ≤ maxLen ∧ Sites W A L := by
  obtain ⟨a, len, cap, rfl⟩ := okWide_slice Try.underlying22 hval
  obtain ⟨fuel, hf⟩ := hd
  obtain ⟨A, L, c, h1, h2, h3, h4⟩ := open_sites hf
  have h5 : [Value.slice a len cap] = [Value.slice A L.length c] := h1
  injection h5 with h5
  exact ⟨A, L, c, h5, h2, h3, h4⟩
theorem arg_ints (hval : Value.okWide Try.prog W r b0 23 v) (hd : DataW.Trod enc Try.prog W base sp held 23 v d ps) : ∃ A l c, v = .slice A l.length c ∧ l.length ≤ maxLen ∧ Sl W .i64 A l := by
  obtain ⟨a, len, cap, rfl⟩ := okWide_slice Try.underlying23 hval
  obtain ⟨fuel, hf⟩ := hd
  have hf' : DataW.trod enc Try.prog W base sp held fuel 23 [Value.slice a len cap] = some (d, ps) := hf
  obtain ⟨l, ⟨A, c, h1, h2, h3, _, h4⟩, _⟩ := slAt_trod Try.underlying23 Try.underlying3 cells3 hf'
  injection h1 with h1
  exact ⟨A, l, c, h1, Nat.le_trans h2 h3, h4⟩
end
end Go.Proofs.Ytbhcaniopdgjkaa
