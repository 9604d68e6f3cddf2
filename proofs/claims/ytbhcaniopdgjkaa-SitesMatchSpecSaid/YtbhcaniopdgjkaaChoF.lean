import Derived.Test.YtbhcaniopdgjkaaSFault
import Derived.Test.YtbhcaniopdgjkaaCheck
namespace Go.Proofs.Ytbhcaniopdgjkaa
open Go Go.Proofs Go.RowKit
open Plain (SiteD)
set_option maxHeartbeats 3200000
set_option maxRecDepth 100000
theorem FBlk.other {w : World} {g h : Nat} {f : Int × Int} (hb : FBlk w g f) (hn : g ≠ h) (i : Nat) (v : Value) : FBlk (w.setCell ⟨h, i, none⟩ v) g f := by
  unfold FBlk at *
  rw [Below.heap_setCell _ _ _ _ hn]; exact hb
theorem ChosenFault_c (A C : Option Addr) (L : List SiteD) (ch : List Int) (c1 c2 : Nat) (w : World) (hc : ch.length ≤ maxLen) (hL : L.length ≤ 9223372036854775807) (h1 : Sites w A L) (h2 : Sl w .i64 C ch) :
    Calls Try.prog 18 #[.slice A L.length c1, .slice C ch.length c2] w (FRet w (Plain.chosenF L ch)) := by
  have HV := Lib.hid (SitesFault_c A L c1 (w.alloc (.cells #[.int .i64 0, .int .i64 0] 25)) (by omega) (h1.ext ((Ext.refl w).alloc _)))
  obtain ⟨⟨f1, f2⟩, hf⟩ : ∃ f, Plain.sitesF L = f := ⟨_, rfl⟩
  rw [hf] at HV
  obtain ⟨F, hF⟩ : ∃ F, Plain.chosenF L ch = F := ⟨_, rfl⟩
  rw [hF]
  have HFF := Lib.hid hF
  have HF := Lib.hid hf
  have HR := Lib.hid (fun w1 (x : Ext w w1) => RisingX_c C ch c2 L.length w1 hc (by omega) (h2.ext x))
  obtain ⟨r, hr⟩ : ∃ r, Plain.risingC ch L.length = r := ⟨_, rfl⟩
  rw [hr] at HR
  have HRE := Lib.hid hr
  clear hf hF hr h2 h1
  by_cases h1 : f1 = 0
  · have h2' : f2 = 0 := by
      have := sitesF_code L (by rw [HF.out]; exact h1)
      rw [HF.out] at this
      injection this
    subst h1
    subst h2'
    by_cases h3 : r = 0
    · subst h3
      have HV0 : Hid (F = (0, 0)) := by
        show F = (0, 0)
        rw [← HFF.out]; unfold Plain.chosenF; rw [if_pos HF.out, if_neg (by rw [HRE.out]; simp)]
      go_enter Try.func18, Try.ntmps18
      go_wp2_with (first | (go_at_call 17; refine HV.out.mono ?_; rintro e w1 ⟨rfl, hx⟩; have hb := (FBlk.new w 0 0).ext hx; have HX := Lib.hid (ext_new hx); have HB := Lib.hid hb; have hlt := new_lt hx; clear hb hx) | (go_at_call 19; refine (HR.out _ (HX.out.alloc _)).mono ?_; rintro e w2 ⟨rfl, hx2⟩; have hb2 := (HB.out.alloc _).ext hx2; have hf2 := (FBlk.new w1 0 0).ext hx2; have z0 := hb2.c0; have z1 := hb2.c1; have y0 := hb2.z 0; have y1 := hb2.z 1; have p0 := hf2.c0; have p1 := hf2.c1; have q0 := hf2.z 0; have q1 := hf2.z 1; have hlt1 := new_lt hx2; have hlt2 : w.heap.size < w2.heap.size := Nat.lt_trans hlt hlt1; have HX2 := Lib.hid ((HX.out.alloc _).trans hx2); have HB2 := Lib.hid hb2; have HF2 := Lib.hid hf2; clear hb2 hf2 hx2))
      refine bodyPost_ret (v := .agg #[.int .i64 0, .int .i64 0]) (fault_res Try.results18 _ _ w.heap.size (_, _) rfl ?_) rfl ⟨by rw [HV0.out], ?_⟩
      · exact HB2.out.set _ _
      · exact HX2.out.set2 _ _
    · have HV0 : Hid (F = (r, -2)) := by
        show F = (r, -2)
        rw [← HFF.out]; unfold Plain.chosenF; rw [if_pos HF.out, if_pos (by rw [HRE.out]; exact h3), HRE.out]
      go_enter Try.func18, Try.ntmps18
      go_wp2_with (first | (go_at_call 17; refine HV.out.mono ?_; rintro e w1 ⟨rfl, hx⟩; have hb := (FBlk.new w 0 0).ext hx; have HX := Lib.hid (ext_new hx); have HB := Lib.hid hb; have hlt := new_lt hx; clear hb hx) | (go_at_call 19; refine (HR.out _ (HX.out.alloc _)).mono ?_; rintro e w2 ⟨rfl, hx2⟩; have hb2 := (HB.out.alloc _).ext hx2; have hf2 := (FBlk.new w1 0 0).ext hx2; have z0 := hb2.c0; have z1 := hb2.c1; have y0 := hb2.z 0; have y1 := hb2.z 1; have p0 := hf2.c0; have p1 := hf2.c1; have q0 := hf2.z 0; have q1 := hf2.z 1; have hlt1 := new_lt hx2; have hlt2 : w.heap.size < w2.heap.size := Nat.lt_trans hlt hlt1; have HX2 := Lib.hid ((HX.out.alloc _).trans hx2); have HB2 := Lib.hid hb2; have HF2 := Lib.hid hf2; clear hb2 hf2 hx2) | (go_at_call 20; refine (At_c _ _ _).mono ?_; rintro e w3 ⟨rfl, rfl⟩))
      refine bodyPost_ret (v := .agg #[.int .i64 r, .int .i64 (-2)]) (fault_res Try.results18 _ _ w.heap.size (_, _) rfl ?_) rfl ⟨by rw [HV0.out], ?_⟩
      · exact (((HB2.out.other (by omega) 0 _).other (by omega) 1 _).set _ _).alloc _
      · exact ((((HX2.out.setCell (p := ⟨w1.heap.size, 0, none⟩) (Nat.le_of_lt hlt) _).setCell (p := ⟨w1.heap.size, 1, none⟩) (Nat.le_of_lt hlt) _).set2 _ _).alloc _)
  · have HV0 : Hid (F = (f1, f2)) := by
      show F = (f1, f2)
      rw [← HFF.out]; unfold Plain.chosenF; rw [if_neg (by rw [HF.out]; intro h; apply h1; injection h with a b), HF.out]
    go_enter Try.func18, Try.ntmps18
    go_wp2_with (first | (go_at_call 17; refine HV.out.mono ?_; rintro e w1 ⟨rfl, hx⟩; have hb := (FBlk.new w 0 0).ext hx; have HX := Lib.hid (ext_new hx); have HB := Lib.hid hb; have hlt := new_lt hx; clear hb hx) | (go_at_call 19; refine (HR.out _ (HX.out.alloc _)).mono ?_; rintro e w2 ⟨rfl, hx2⟩; have hb2 := (HB.out.alloc _).ext hx2; have hf2 := (FBlk.new w1 f1 f2).ext hx2; have z0 := hb2.c0; have z1 := hb2.c1; have y0 := hb2.z 0; have y1 := hb2.z 1; have p0 := hf2.c0; have p1 := hf2.c1; have q0 := hf2.z 0; have q1 := hf2.z 1; have hlt1 := new_lt hx2; have hlt2 : w.heap.size < w2.heap.size := Nat.lt_trans hlt hlt1; have HX2 := Lib.hid ((HX.out.alloc _).trans hx2); have HB2 := Lib.hid hb2; have HF2 := Lib.hid hf2; clear hb2 hf2 hx2))
    refine bodyPost_ret (v := .agg #[.int .i64 f1, .int .i64 f2]) (fault_res Try.results18 _ _ w.heap.size (_, _) rfl ?_) rfl ⟨by rw [HV0.out], ?_⟩
    · exact HB2.out.set _ _
    · exact HX2.out.set2 _ _
end Go.Proofs.Ytbhcaniopdgjkaa
