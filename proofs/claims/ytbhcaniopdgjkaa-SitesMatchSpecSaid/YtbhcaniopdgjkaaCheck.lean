import Derived.Test.YtbhcaniopdgjkaaBlk
namespace Go.Proofs.Ytbhcaniopdgjkaa
open Go Go.Proofs Go.RowKit
open Plain (SiteD)
set_option maxHeartbeats 1600000
set_option maxRecDepth 100000
theorem siteC_pos (b : List SiteD) (r : List SiteD) : (Plain.sitesGo b r).1 = 0 → Plain.sitesGo b r = (0, 0) := by
  induction r generalizing b with
  | nil => intro _; rfl
  | cons s r ih =>
    intro h
    rw [Plain.sitesGo] at h ⊢
    split at h
    · rename_i hc; exact absurd h hc
    · rename_i hc; rw [if_neg hc]; exact ih _ h
theorem sitesF_code (L : List SiteD) (h : (Plain.sitesF L).1 = 0) : Plain.sitesF L = (0, 0) := by
  unfold Plain.sitesF at *
  split at h
  · cases h
  · rename_i hc; rw [if_neg hc]; exact siteC_pos _ _ h
theorem check_c (A C : Option Addr) (L : List SiteD) (ch : List Int) (c1 c2 : Nat) (w : World) (hc : ch.length ≤ maxLen)
   (hV : ∀ w1, Ext w w1 → Calls Try.prog 22 #[.slice A L.length c1] w1 (FRet w1 (Plain.sitesF L))) (h2 : Sl w .i64 C ch) :
    Calls Try.prog 45 #[.slice A L.length c1, .slice C ch.length c2] w (FRet w (Plain.chosenF L ch)) := by
  have HV := Lib.hid (hV (w.alloc (.cells #[.int .i64 0, .int .i64 0] 25)) ((Ext.refl w).alloc _))
  obtain ⟨⟨f1, f2⟩, hf⟩ : ∃ f, Plain.sitesF L = f := ⟨_, rfl⟩
  rw [hf] at HV
  obtain ⟨F, hF⟩ : ∃ F, Plain.chosenF L ch = F := ⟨_, rfl⟩
  rw [hF]
  have HFF := Lib.hid hF
  have HF := Lib.hid hf
  clear hV hf hF
  by_cases h1 : f1 = 0
  · have h2' : f2 = 0 := by
      have := sitesF_code L (by rw [HF.out]; exact h1)
      rw [HF.out] at this
      injection this
    subst h1
    subst h2'
    have HR := Lib.hid (fun w1 (x : Ext w w1) => Rising_c C ch c2 L.length w1 hc (h2.ext x))
    obtain ⟨r, hr⟩ : ∃ r, Plain.risingC ch L.length = r := ⟨_, rfl⟩
    rw [hr] at HR
    have HRE := Lib.hid hr
    clear hr h2
    by_cases h3 : r = 0
    · subst h3
      have HV0 : Hid (F = (0, 0)) := by
        show F = (0, 0)
        rw [← HFF.out]; unfold Plain.chosenF; rw [if_pos HF.out, if_neg (by rw [HRE.out]; simp)]
      go_enter Try.func45, Try.ntmps45
      go_wp2_with (first | (go_at_call 22; refine HV.out.mono ?_; rintro e w1 ⟨rfl, hx⟩; have hb := (FBlk.new w 0 0).ext hx; have z0 := hb.c0; have z1 := hb.c1; have y0 := hb.z 0; have y1 := hb.z 1; have hlt := new_lt hx; have HX := Lib.hid (ext_new hx); have HB := Lib.hid hb; clear hb hx) | (go_at_call 46; refine (HR.out _ (HX.out.alloc _)).mono ?_; rintro e w2 ⟨rfl, rfl⟩))
      refine bodyPost_ret (v := .agg #[.int .i64 0, .int .i64 0]) (fault_res Try.results45 _ _ w.heap.size (_, _) rfl ?_) rfl ⟨by rw [HV0.out], ?_⟩
      · exact (HB.out.set _ _).alloc _
      · exact (HX.out.set2 _ _).alloc _
    · have HV0 : Hid (F = (r, -2)) := by
        show F = (r, -2)
        rw [← HFF.out]; unfold Plain.chosenF; rw [if_pos HF.out, if_pos (by rw [HRE.out]; exact h3), HRE.out]
      go_enter Try.func45, Try.ntmps45
      go_wp2_with (first | (go_at_call 22; refine HV.out.mono ?_; rintro e w1 ⟨rfl, hx⟩; have hb := (FBlk.new w 0 0).ext hx; have z0 := hb.c0; have z1 := hb.c1; have y0 := hb.z 0; have y1 := hb.z 1; have hlt := new_lt hx; have HX := Lib.hid (ext_new hx); have HB := Lib.hid hb; clear hb hx) | (go_at_call 46; refine (HR.out _ (HX.out.alloc _)).mono ?_; rintro e w2 ⟨rfl, rfl⟩) | (go_at_call 47; refine (fault_c _ _ _).mono ?_; rintro e w3 ⟨rfl, rfl⟩))
      refine bodyPost_ret (v := .agg #[.int .i64 r, .int .i64 (-2)]) (fault_res Try.results45 _ _ w.heap.size (_, _) rfl ?_) rfl ⟨by rw [HV0.out], ?_⟩
      · exact ((HB.out.set _ _).alloc _).alloc _
      · exact ((HX.out.set2 _ _).alloc _).alloc _
  · have HV0 : Hid (F = (f1, f2)) := by
      show F = (f1, f2)
      rw [← HFF.out]; unfold Plain.chosenF; rw [if_neg (by rw [HF.out]; intro h; apply h1; injection h with a b), HF.out]
    go_enter Try.func45, Try.ntmps45
    go_wp2_with (go_at_call 22; refine HV.out.mono ?_; rintro e w1 ⟨rfl, hx⟩; have hb := (FBlk.new w 0 0).ext hx; have z0 := hb.c0; have z1 := hb.c1; have y0 := hb.z 0; have y1 := hb.z 1; have hlt := new_lt hx; have HX := Lib.hid (ext_new hx); have HB := Lib.hid hb; clear hb hx)
    refine bodyPost_ret (v := .agg #[.int .i64 f1, .int .i64 f2]) (fault_res Try.results45 _ _ w.heap.size (_, _) rfl ?_) rfl ⟨by rw [HV0.out], ?_⟩
    · exact (HB.out.set _ _).alloc _
    · exact (HX.out.set2 _ _).alloc _
end Go.Proofs.Ytbhcaniopdgjkaa
