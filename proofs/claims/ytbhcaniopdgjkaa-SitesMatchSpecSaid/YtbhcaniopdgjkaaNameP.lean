import Derived.Test.YtbhcaniopdgjkaaNameR
import Derived.Test.YtbhcaniopdgjkaaShelf
namespace Go.Proofs.Ytbhcaniopdgjkaa
open Go Go.Proofs Go.RowKit
set_option maxHeartbeats 1600000
set_option maxRecDepth 100000
/-- The length variable of the library's search holds a number. -/
def Glob (w : World) : Prop := ∃ m, w.cell? ⟨0, 0, none⟩ = some (.int .i64 m)
theorem Glob.ext {w w' : World} (h : Glob w) (e : Ext w w') : Glob w' := by
  obtain ⟨m, h⟩ := h; exact ⟨m, e.cell h⟩
def dashB (c : Nat) : Bool := decide ((c : Int) = 45) || decide ((c : Int) = 95) || decide ((c : Int) = 46)
theorem dash_one : ∀ n : Fin 128, decide (0 ≤ Lib.indexByte [45, 95, 46] (UInt8.ofNat n.val)) = dashB n.val := by decide
theorem dash_two : ∀ n : Fin 256, 128 ≤ n.val → Lib.contains [45, 95, 46] (Utf8.encode (n.val : Int)).data.toList = dashB n.val := by decide
theorem enc_one : ∀ n : Fin 128, Utf8.encode (n.val : Int) = ⟨#[UInt8.ofNat n.val]⟩ := by decide
theorem dash_c (c : UInt8) (w : World) (hg : Glob w) : Calls Try.prog 87 #[.string ⟨#[45, 95, 46]⟩, .string (Utf8.encode (c.toNat : Int))] w fun e w' => e = .returned (.bool (dashB c.toNat)) ∧ w' = w := by
  obtain ⟨m, hm⟩ := hg
  by_cases h : c.toNat < 128
  · have := enc_one ⟨c.toNat, h⟩
    simp only at this
    rw [this]
    have h2 := dash_one ⟨c.toNat, h⟩
    simp only at h2
    rw [← h2]
    exact Try.strings_Contains_one ⟨#[45, 95, 46]⟩ _ w
  · have h2 := dash_two ⟨c.toNat, c.toNat_lt⟩ (by simp; omega)
    simp only at h2
    rw [← h2]
    exact Try.strings_Contains ⟨#[45, 95, 46]⟩ _ m w (by decide) hm
theorem bytes_of (s : ByteArray) (w : World) : ∃ w1 c, (convert 9 97 (.string s)).run Try.prog w = .ok (.slice (some ⟨w.heap.size, 0, none⟩) s.size c) w1 ∧ Ext w w1 ∧ ∀ i (h : i < s.size), w1.cell? ⟨w.heap.size, i, none⟩ = some (.int .u8 (s[i].toNat : Int)) := by
  refine ⟨_, _, run_bytes_of_string w 9 97 5 s Try.underlying9 Try.underlying97 Try.underlying5, ?_, ?_⟩
  · exact ((Ext.refl w).drew).alloc _
  · intro i h
    have hb := bytesRow_at s (grownCap w s.size 0 5) i h
    generalize bytesRow s (grownCap w s.size 0 5) = R at *
    show (w.drew.alloc (.cells R 5 (R.size, R.size + 1))).cell? ⟨w.drew.heap.size, i, none⟩ = _
    generalize w.drew = v
    unfold World.cell? World.alloc
    simp [hb]
    rfl
theorem name_empty (s : ByteArray) (h : s.size < 1) : Plain.nameB s.data.toList = false := by
  unfold Plain.nameB
  have : s.data.toList.length = s.size := by simp
  rw [this, decide_eq_false (by omega)]; simp
theorem name_long (s : ByteArray) (h : 32 < s.size) : Plain.nameB s.data.toList = false := by
  unfold Plain.nameB
  have : s.data.toList.length = s.size := by simp
  rw [this, decide_eq_false (show ¬ s.size ≤ 32 by omega)]; simp
theorem dash_no {n : Nat} (h : (122 : Int) < n) : dashB n = false := by
  unfold dashB
  rw [decide_eq_false (by omega), decide_eq_false (by omega), decide_eq_false (by omega)]; rfl
theorem okN_no {n : Nat} (h : (122 : Int) < n) : okN n = false := by
  unfold okN inB
  rw [decide_eq_false (by omega), decide_eq_false (by omega), decide_eq_false (by omega), decide_eq_false (by omega), decide_eq_false (by omega)]; rfl
theorem okN_yes {n : Nat} (h : (97 : Int) ≤ n) (h2 : (n : Int) ≤ 122) : okN n = true := by
  unfold okN inB
  rw [decide_eq_true ⟨h, h2⟩]; rfl
theorem isName_c (s : ByteArray) (w : World) (hl : s.size ≤ maxLen) (hg : Glob w) : Calls Try.prog 55 #[.string s] w fun e w' => e = .returned (.bool (Plain.nameB s.data.toList)) ∧ Ext w w' := by
  unfold maxLen at hl
  obtain ⟨r, hr⟩ : ∃ r, Plain.nameB s.data.toList = r := ⟨_, rfl⟩
  rw [hr]
  have HR := Lib.hid hr
  clear hr
  by_cases h0 : s.size < 1
  · have HF := Lib.hid ((name_empty s h0).symm.trans HR.out)
    have hs : s = ⟨#[]⟩ := by
      obtain ⟨d⟩ := s
      simp [ByteArray.size] at h0
      rw [h0]
    subst hs
    clear h0 hl
    go_enter Try.func55, Try.ntmps55
    go_wp2
    go_ret
    exact ⟨ret_bool HF.out, Ext.refl _⟩
  have hne : s.toList.isEmpty = false := by
    rw [ByteArray.toList_eq]
    obtain ⟨d⟩ := s
    simp [ByteArray.size] at h0 ⊢
    exact h0
  by_cases h2 : 32 < s.size
  · have HF := Lib.hid ((name_long s h2).symm.trans HR.out)
    go_enter Try.func55, Try.ntmps55
    go_wp2
    go_ret
    exact ⟨ret_bool HF.out, Ext.refl _⟩
  have h0s : 0 < s.size := by omega
  have h32 : s.size ≤ 32 := by omega
  cases hf : inB s[0].toNat 97 122 with
  | false =>
    have HF := Lib.hid ((name_first h0s hf).symm.trans HR.out)
    unfold inB at hf
    have hf2 := of_decide_eq_false hf
    clear hf
    by_cases h97 : (s[0].toNat : Int) < 97
    · go_enter Try.func55, Try.ntmps55
      go_wp2
      go_ret
      exact ⟨ret_bool HF.out, Ext.refl _⟩
    · have h122 : (122 : Int) < s[0].toNat := by omega
      go_enter Try.func55, Try.ntmps55
      go_wp2
      go_ret
      exact ⟨ret_bool HF.out, Ext.refl _⟩
  | true =>
    have HG := Lib.hid (fun (k : Nat) (hk : s.size ≤ k) (ha : namesTo s k) => (name_good h0s h32 hf hk ha).symm.trans HR.out)
    have HB := Lib.hid (fun (k : Nat) (hk : k < s.size) (hc : okN s[k].toNat = false) => (names_bad hk hc).symm.trans HR.out)
    unfold inB at hf
    obtain ⟨h97, h122⟩ := of_decide_eq_true hf
    clear hf
    obtain ⟨w1, c1, hcv, hx1, hcell⟩ := bytes_of s w
    have HG1 := Lib.hid (hg.ext hx1)
    have HX1 := Lib.hid hx1
    have HCE := Lib.hid hcell
    clear hx1 hcell hg
    go_enter Try.func55, Try.ntmps55
    go_wp2
    clear hcv
    go_loop [25] (fun i => ∃ k : Nat, k ≤ s.size ∧ i = .int .i64 k ∧ namesTo s k) (fun i => s.size - (intOf i).toNat)
    case atStart => exact ⟨0, Nat.zero_le _, rfl, by simp [namesTo]⟩
    case round =>
      obtain ⟨k, hk, rfl, hr⟩ := hrel
      have HN := Lib.hid hr
      clear hr
      by_cases hlt : k < s.size
      · have hce := HCE.out k hlt
        have HD := Lib.hid (dash_c s[k] w1 HG1.out)
        have HNX := Lib.hid (fun h => names_next HN.out hlt h)
        have HBX := Lib.hid (fun h => HB.out k hlt h)
        obtain ⟨n, hn⟩ : ∃ n : Nat, n = s[k].toNat := ⟨_, rfl⟩
        have hn2 : (n : Int) < 256 := by rw [hn]; have := s[k].toNat_lt; omega
        rw [← hn] at hce HD HNX HBX
        clear hn
        by_cases g1 : (n : Int) < 97
        · by_cases g3 : (n : Int) < 48
          · cases g5 : dashB n with
            | true =>
              have HX := Lib.hid (HNX.out (by unfold dashB at g5; unfold okN; simp at g5 ⊢; omega))
              rw [g5] at HD; clear g5
              go_wp2_with (go_at_call 87; refine HD.out.mono ?_; rintro e w' ⟨rfl, rfl⟩)
              refine ⟨⟨k + 1, by omega, by go_num, HX.out⟩, by simp [intOf]; omega⟩
            | false =>
              have HX := Lib.hid (HBX.out (by unfold dashB at g5; unfold okN inB; simp at g5 ⊢; omega))
              rw [g5] at HD; clear g5
              go_wp2_with (go_at_call 87; refine HD.out.mono ?_; rintro e w' ⟨rfl, rfl⟩)
              go_ret
              exact ⟨ret_bool HX.out, HX1.out⟩
          · by_cases g4 : (57 : Int) < n
            · cases g5 : dashB n with
              | true =>
                have HX := Lib.hid (HNX.out (by unfold dashB at g5; unfold okN; simp at g5 ⊢; omega))
                rw [g5] at HD; clear g5
                go_wp2_with (go_at_call 87; refine HD.out.mono ?_; rintro e w' ⟨rfl, rfl⟩)
                refine ⟨⟨k + 1, by omega, by go_num, HX.out⟩, by simp [intOf]; omega⟩
              | false =>
                have HX := Lib.hid (HBX.out (by unfold dashB at g5; unfold okN inB; simp at g5 ⊢; omega))
                rw [g5] at HD; clear g5
                go_wp2_with (go_at_call 87; refine HD.out.mono ?_; rintro e w' ⟨rfl, rfl⟩)
                go_ret
                exact ⟨ret_bool HX.out, HX1.out⟩
            · have HX := Lib.hid (HNX.out (by unfold okN inB; simp; omega))
              go_wp2_with (go_at_call 87; refine HD.out.mono ?_; rintro e w' ⟨rfl, rfl⟩)
              refine ⟨⟨k + 1, by omega, by go_num, HX.out⟩, by simp [intOf]; omega⟩
        · by_cases g2 : (122 : Int) < n
          · have g3 : ¬ (n : Int) < 48 := by omega
            have g4 : (57 : Int) < n := by omega
            have g5 : dashB n = false := dash_no g2
            have HX := Lib.hid (HBX.out (okN_no g2))
            rw [g5] at HD; clear g5
            go_wp2_with (go_at_call 87; refine HD.out.mono ?_; rintro e w' ⟨rfl, rfl⟩)
            go_ret
            exact ⟨ret_bool HX.out, HX1.out⟩
          · have HX := Lib.hid (HNX.out (okN_yes (Int.not_lt.mp g1) (Int.not_lt.mp g2)))
            go_wp2_with (go_at_call 87; refine HD.out.mono ?_; rintro e w' ⟨rfl, rfl⟩)
            refine ⟨⟨k + 1, by omega, by go_num, HX.out⟩, by simp [intOf]; omega⟩
      · have HC := Lib.hid (HG.out k (by omega) HN.out)
        go_wp2
        go_ret
        exact ⟨ret_bool HC.out, HX1.out⟩
end Go.Proofs.Ytbhcaniopdgjkaa
