import Derived.Test.YtbhcaniopdgjkaaMg37
import Derived.Test.YtbhcaniopdgjkaaMg39
import Derived.Test.YtbhcaniopdgjkaaMg26
import Derived.Test.YtbhcaniopdgjkaaMg9
import Derived.Test.YtbhcaniopdgjkaaMg3
namespace Go.Proofs.Ytbhcaniopdgjkaa
open Go Go.Proofs Go.RowKit
open Plain (SiteD)
set_option maxHeartbeats 4000000
set_option maxRecDepth 100000
section
variable (b : Nat) (w : World) (hs : Sites w (some ⟨b, 0, none⟩) chL) (hg : Glob w)
include hs hg
theorem plan_ch : Calls Try.prog 40 #[.slice (some ⟨b, 0, none⟩) 3 3, .int .i64 1, .int .i64 1] w (CRet w [1, 2] 7 (0, 0)) := by
  have := Plan_c (some ⟨b, 0, none⟩) chL 3 1 1 w (by decide) hs hg
  rw [ch_plan] at this
  exact this
theorem plan2_ch : Calls Try.prog 40 #[.slice (some ⟨b, 0, none⟩) 3 3, .int .i64 2, .int .i64 1] w (CRet w [] 0 (12, -1)) := by
  have := Plan_c (some ⟨b, 0, none⟩) chL 3 2 1 w (by decide) hs hg
  rw [ch_plan2] at this
  exact this
theorem keep_ch : Calls Try.prog 42 #[.slice (some ⟨b, 0, none⟩) 3 3, .int .i64 2, .int .i64 0] w (CRet w [1, 2] 7 (0, 0)) := by
  have := Keepers_c (some ⟨b, 0, none⟩) chL 3 2 0 w (by decide) hs hg
  rw [ch_keep] at this
  exact this
theorem rest_ch (C D : Option Addr) (h2 : Sl w .i64 C [1, 2]) (h3 : Sl w .i64 D [2]) : Calls Try.prog 43 #[.slice (some ⟨b, 0, none⟩) 3 3, .slice C 2 2, .slice D 1 1, .int .i64 0, .int .i64 1] w (CRet w [] 0 (0, 0)) := by
  have := Restore_c (some ⟨b, 0, none⟩) C D chL [1, 2] [2] 3 2 1 0 1 w (by decide) (by decide) (by decide) hs hg h2 h3
  rw [ch_rest] at this
  exact this
theorem hold_ch (C : Option Addr) (h2 : Sl w .i64 C [0, 1]) : Calls Try.prog 36 #[.slice (some ⟨b, 0, none⟩) 3 3, .slice C 2 2, .int .i64 1, .int .i64 1] w (BFRet w false (0, 0)) := by
  have := Holds_c (some ⟨b, 0, none⟩) C chL [0, 1] 3 2 1 1 w (by decide) (by decide) hs hg h2
  rw [ch_hold.1, ch_hold.2, Bool.and_false] at this
  exact this
end
theorem new_sl1d (w : World) (l : List Int) (n : Nat) (hn : n = w.heap.size) : Sl (w.alloc (.cells (l.map (Value.int .i64)).toArray 3)).drew .i64 (some ⟨n, 0, none⟩) l := new_sl1 w l n hn
theorem chosen_c (w : World) (hg : Glob w) : Calls Try.prog 38 #[] w (BRet w true) := by
  have HGL := Lib.hid hg
  clear hg
  go_enter Try.func38, Try.ntmps38
  go_upto_region 1 with (fail)
  go_cut [1] (fun s1 wx => ∃ b, s1 = .slice (some ⟨b, 0, none⟩) 3 3 ∧ Sites wx (some ⟨b, 0, none⟩) chL ∧ Ext w wx)
  case first =>
    go_wp2
    go_meet
    exact ⟨_, rfl, ch_sites w, chW_ext w⟩
  case rest =>
    obtain ⟨b, rfl, hs, hx⟩ := hcut
    have HS := Lib.hid hs
    have HXC := Lib.hid hx
    clear hs hx
    go_upto_region 2 with (fail)
    go_cut [2, 3, 4] (fun s2 s3 s4 wx => LV wx s2 [1, 2] ∧ s3 = .int .i64 7 ∧ FV wx s4 (0, 0) ∧ Ext wc wx)
    case first =>
      go_wp2_with (go_at_call 40; refine (plan_ch b _ HS.out (HGL.out.ext HXC.out)).mono ?_; rintro e w3 ⟨v3, rfl, hl3, hx3⟩; have HL := Lib.hid hl3; have HX3 := Lib.hid hx3; clear hl3 hx3)
      go_meet
      exact ⟨HL.out.ext ((Ext.refl _).alloc _), rfl, new_fv _ _ _, HX3.out.alloc _⟩
    case rest =>
      obtain ⟨l2, rfl, f4, hx⟩ := hcut
      have HL2 := Lib.hid l2
      have HF4 := Lib.hid f4
      have HS := Lib.hid (HS.out.ext hx)
      have HXC := Lib.hid (HXC.out.trans hx)
      clear l2 f4 hx
      obtain ⟨wa, rfl⟩ : ∃ x, x = wc := ⟨_, rfl⟩
      go_upto_region 3 with (fail)
      go_cut [5, 6, 7] (fun s5 s6 s7 wx => LV wx s5 [1, 2] ∧ s6 = .int .i64 7 ∧ FV wx s7 (0, 0) ∧ Ext wa wx)
      case first =>
        go_wp2_with (go_at_call 42; refine (keep_ch b _ HS.out (HGL.out.ext HXC.out)).mono ?_; rintro e w3 ⟨v3, rfl, hl3, hx3⟩; have HL := Lib.hid hl3; have HX3 := Lib.hid hx3; clear hl3 hx3)
        go_meet
        exact ⟨HL.out.ext ((Ext.refl _).alloc _), rfl, new_fv _ _ _, HX3.out.alloc _⟩
      case rest =>
        obtain ⟨l5, rfl, f7, hx⟩ := hcut
        have HL5 := Lib.hid l5
        have HF7 := Lib.hid f7
        have HL2 := Lib.hid (HL2.out.ext hx)
        have HF4 := Lib.hid (HF4.out.ext hx)
        have HS := Lib.hid (HS.out.ext hx)
        have HXC := Lib.hid (HXC.out.trans hx)
        clear l5 f7 hx
        obtain ⟨wb, rfl⟩ : ∃ x, x = wc := ⟨_, rfl⟩
        go_upto_region 4 with (fail)
        go_cut [8, 9, 10] (fun s8 s9 s10 wx => LV wx s8 [] ∧ s9 = .int .i64 0 ∧ FV wx s10 (0, 0) ∧ Ext wb wx)
        case first =>
          go_wp2_with (go_at_call 43; refine (rest_ch b _ (HS.out.ext (((Ext.refl _).alloc _).alloc _)) (HGL.out.ext ((HXC.out.alloc _).alloc _)) _ _ ((new_sl1 wb [1, 2] _ rfl).ext ((Ext.refl _).alloc _)) (new_sl1 _ [2] _ (by simp))).mono ?_; rintro e w3 ⟨v3, rfl, hl3, hx3⟩; have HL := Lib.hid hl3; have HX3 := Lib.hid ((((Ext.refl wb).alloc _).alloc _).trans hx3); clear hl3 hx3)
          go_meet
          exact ⟨HL.out.ext ((Ext.refl _).alloc _), rfl, new_fv _ _ _, HX3.out.alloc _⟩
        case rest =>
          obtain ⟨l8, rfl, f10, hx⟩ := hcut
          have HL8 := Lib.hid l8
          have HF10 := Lib.hid f10
          have HL5 := Lib.hid (HL5.out.ext hx)
          have HF7 := Lib.hid (HF7.out.ext hx)
          have HL2 := Lib.hid (HL2.out.ext hx)
          have HF4 := Lib.hid (HF4.out.ext hx)
          have HS := Lib.hid (HS.out.ext hx)
          have HXC := Lib.hid (HXC.out.trans hx)
          clear l8 f10 hx
          obtain ⟨wd, rfl⟩ : ∃ x, x = wc := ⟨_, rfl⟩
          go_upto_region 5 with (fail)
          go_cut [11, 12] (fun s11 s12 wx => s11 = .bool false ∧ FV wx s12 (0, 0) ∧ Ext wd wx)
          case first =>
            go_wp2_with (go_at_call 36; refine (hold_ch b _ (HS.out.ext ((Ext.refl _).alloc _)) (HGL.out.ext (HXC.out.alloc _)) _ (new_sl1 wd [0, 1] _ rfl)).mono ?_; rintro e w3 ⟨rfl, hx3⟩; have HX3 := Lib.hid (((Ext.refl wd).alloc _).trans hx3); clear hx3)
            go_meet
            exact ⟨rfl, new_fv _ _ _, HX3.out.alloc _⟩
          case rest =>
            obtain ⟨rfl, f12, hx⟩ := hcut
            have HF12 := Lib.hid f12
            have HL8 := Lib.hid (HL8.out.ext hx)
            have HF10 := Lib.hid (HF10.out.ext hx)
            have HL5 := Lib.hid (HL5.out.ext hx)
            have HF7 := Lib.hid (HF7.out.ext hx)
            have HL2 := Lib.hid (HL2.out.ext hx)
            have HF4 := Lib.hid (HF4.out.ext hx)
            have HS := Lib.hid (HS.out.ext hx)
            have HXC := Lib.hid (HXC.out.trans hx)
            clear f12 hx
            obtain ⟨we, rfl⟩ : ∃ x, x = wc := ⟨_, rfl⟩
            go_upto_region 6 with (fail)
            go_cut [15] (fun s15 wx => FV wx s15 (12, -1) ∧ Ext we wx)
            case first =>
              go_wp2_with (go_at_call 40; refine (plan2_ch b _ HS.out (HGL.out.ext HXC.out)).mono ?_; rintro e w3 ⟨v3, rfl, hl3, hx3⟩; have HX3 := Lib.hid hx3; clear hl3 hx3)
              go_meet
              exact ⟨new_fv _ _ _, HX3.out.alloc _⟩
            case rest =>
              obtain ⟨f15, hx⟩ := hcut
              have HL8 := HL8.out.ext hx
              have HF10 := HF10.out.ext hx
              have HL5 := HL5.out.ext hx
              have HF7 := HF7.out.ext hx
              have HL2 := HL2.out.ext hx
              have HF4 := HF4.out.ext hx
              have HF12 := HF12.out.ext hx
              have HXC := Lib.hid (HXC.out.trans hx)
              obtain ⟨g4, rfl, f4⟩ := HF4
              obtain ⟨g7, rfl, f7⟩ := HF7
              obtain ⟨g10, rfl, f10⟩ := HF10
              obtain ⟨g12, rfl, f12⟩ := HF12
              obtain ⟨g15, rfl, f15⟩ := f15
              obtain ⟨R2, d2, rfl, l2⟩ := HL2
              obtain ⟨R5, d5, rfl, l5⟩ := HL5
              obtain ⟨R8, d8, rfl, l8⟩ := HL8
              have z4 := f4.c0
              have z7 := f7.c0
              have z10 := f10.c0
              have z12 := f12.c0
              have z15 := f15.c0
              have y15 := f15.c1
              obtain ⟨wf, rfl⟩ : ∃ x, x = wc := ⟨_, rfl⟩
              have HI2 := Lib.hid (fun w' (x : Ext wf w') B d (hb : Sl w' .i64 B [1, 2]) => ints_same R2 B [1, 2] 2 d2 d w' rfl (by decide) (l2.ext x) hb)
              have HI5 := Lib.hid (fun w' (x : Ext wf w') B d (hb : Sl w' .i64 B [1, 2]) => ints_same R5 B [1, 2] 2 d5 d w' rfl (by decide) (l5.ext x) hb)
              clear f4 f7 f10 f12 f15 hx l8 HS HGL l2 l5
              simp only [List.length_cons, List.length_nil] at z4 z7 z10 z12 z15 y15 ⊢
              go_upto_region 7 with (fail)
              go_region_held3 (fun w' => w'.cell? ⟨g4, 0, none⟩ = some (.int .i64 0) ∧ w'.cell? ⟨g7, 0, none⟩ = some (.int .i64 0) ∧ w'.cell? ⟨g10, 0, none⟩ = some (.int .i64 0) ∧ w'.cell? ⟨g12, 0, none⟩ = some (.int .i64 0) ∧ w'.cell? ⟨g15, 0, none⟩ = some (.int .i64 12) ∧ w'.cell? ⟨g15, 1, none⟩ = some (.int .i64 (-1))) (go_keep) ((first
                | (go_at_call 20; refine (At_c _ _ _).mono ?_; rintro e w' ⟨rfl, rfl⟩)
                | (go_at_call_of 24 (Value.slice R2 2 d2); refine (HI2.out _ (((Ext.refl wf).alloc _).alloc _).drew _ _ (new_sl1d (wf.alloc (.cells #[.int .i64 12, .int .i64 (-1)] 25)) [1, 2] _ (by rw [alloc_size]))).mono ?_; rintro e w5 ⟨rfl, hx5⟩; have hx5' : Ext wf w5 := (((Ext.refl wf).alloc _).alloc _).drew.trans hx5; have q4 := hx5'.cell z4; have q7 := hx5'.cell z7; have q10 := hx5'.cell z10; have q12 := hx5'.cell z12; have q15 := hx5'.cell z15; have r15 := hx5'.cell y15; have HX5 := Lib.hid hx5'; clear hx5 hx5')
                | (go_at_call_of 24 (Value.slice R5 2 d5); refine (HI5.out _ (HX5.out.alloc _) _ _ (new_sl1 _ [1, 2] _ rfl)).mono ?_; rintro e w6 ⟨rfl, hx6⟩; have hx6' : Ext wf w6 := (HX5.out.alloc _).trans hx6; have s4 := hx6'.cell z4; have s7 := hx6'.cell z7; have s10 := hx6'.cell z10; have s12 := hx6'.cell z12; have s15 := hx6'.cell z15; have t15 := hx6'.cell y15; have HX6 := Lib.hid hx6'; clear hx6 hx6')))
              all_goals go_wp2
              all_goals go_ret
              all_goals exact ⟨rfl, HXC.out.trans HX6.out⟩
end Go.Proofs.Ytbhcaniopdgjkaa
namespace Go.Proofs.Ytbhcaniopdgjkaa
open Go Go.Proofs Go.RowKit
open Plain (SiteD)
set_option maxHeartbeats 1000000
set_option maxRecDepth 100000
theorem leftFault_cases (L : List SiteD) (ch lost : List Int) (f1 f2 : Int) (hf : Plain.chosenF L ch = (f1, f2)) : leftFault L ch lost = if f1 = 0 ∧ Plain.risingC lost 12 ≠ 0 then (Plain.risingC lost 12, -3) else (f1, f2) := by
  unfold leftFault
  rw [hf]
  by_cases h0 : f1 = 0
  · have := chosenF_code L ch (by rw [hf]; exact h0)
    rw [hf] at this
    rw [this]
    injection this with _ h2
    subst h2
    by_cases h3 : Plain.risingC lost 12 = 0
    · simp [h0, h3]
    · simp [h0, h3]
  · rw [if_pos (by intro e; apply h0; injection e), if_neg (by intro h; exact h0 h.1)]
theorem leftOf_law (A C D : Option Addr) (L : List SiteD) (ch lost : List Int) (c1 c2 c3 : Nat) (w : World) (hd : lost.length ≤ maxLen) (h1 : Sites w A L) (h2 : Sl w .i64 C ch) (h3 : Sl w .i64 D lost) (hf : leftFault L ch lost = (0, 0)) :
    Calls Try.prog 26 #[.slice A L.length c1, .slice C ch.length c2, .slice D lost.length c3] w (LRet w (Plain.leftF L ch lost)) := by
  have a1 : Plain.chosenF L ch = (0, 0) := by
    unfold leftFault at hf
    split at hf
    · rename_i hc; exact absurd hf hc
    · rename_i hc; simpa using hc
  obtain ⟨b1, b2⟩ := chosenF_ok a1
  have b3 := sitesF_len b1
  have b4 := rising_len b2
  exact LeftOf_c A C D L ch lost c1 c2 c3 w (by omega) hd (by omega) h1 h2 h3 (Plain.risingC_iff.1 b2).2
theorem rising_x (A : Option Addr) (l : List Int) (c : Nat) (n : Int) (w : World) (hl : l.length ≤ maxLen) (hn : -1000000 ≤ n ∧ n ≤ 9223372036854775807) (h1 : Sl w .i64 A l) :
    Calls Try.prog 19 #[.slice A l.length c, .int .i64 n] w fun e w' => e = .returned (.int .i64 (Plain.risingC l n)) ∧ Ext w w' := by
  refine (RisingCode_c A l c n w hl hn h1).mono ?_
  rintro e w' ⟨rfl, m, rfl⟩
  exact ⟨rfl, (Ext.refl w).drewN m⟩
end Go.Proofs.Ytbhcaniopdgjkaa
