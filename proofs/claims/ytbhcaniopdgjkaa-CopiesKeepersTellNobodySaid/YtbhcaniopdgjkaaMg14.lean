import Derived.Test.YtbhcaniopdgjkaaMg13
import Derived.Test.YtbhcaniopdgjkaaMg9
namespace Go.Proofs.Ytbhcaniopdgjkaa
open Go Go.Proofs Go.RowKit
open Plain (SiteD)
set_option maxHeartbeats 3200000
set_option maxRecDepth 100000
theorem FBlk.other {w : World} {g h : Nat} {f : Int × Int} (hb : FBlk w g f) (hn : g ≠ h) (i : Nat) (v : Value) : FBlk (w.setCell ⟨h, i, none⟩ v) g f := by
  unfold FBlk at *
  rw [Below.heap_setCell _ _ _ _ hn]; exact hb
theorem ChosenFault_c (A C : Option Addr) (L : List SiteD) (ch : List Int) (c1 c2 : Nat) (w : World) (hc : ch.length ≤ maxLen) (hL : L.length ≤ 9223372036854775807) (h1 : Sites w A L) (h2 : Sl w .i64 C ch) :
    Calls Try.prog 18 #[.slice A L.length c1, .slice C ch.length c2] w (FRet w (Plain.chosenF L ch)) := by
  have HV := Lib.hid (SitesFault_c A L c1 (w.alloc (.cells #[.int .i64 0, .int .i64 0] 25)) (by omega) (h1.ext ((Ext.refl w).alloc _)))
  obtain ⟨⟨f1, f2⟩, hf⟩ : ∃ f, Plain.sitesF L = f := ⟨_, rfl⟩
  rw [hf] at HV
  obtain ⟨F, hF⟩ : ∃ F, Plain.chosenF L ch = F := ⟨_, rfl⟩
  rw [hF]
  have HFF := Lib.hid hF
  have HF := Lib.hid hf
  have HR := Lib.hid (fun w1 (x : Ext w w1) => RisingX_c C ch c2 L.length w1 hc (by omega) (h2.ext x))
  obtain ⟨r, hr⟩ : ∃ r, Plain.risingC ch L.length = r := ⟨_, rfl⟩
  rw [hr] at HR
  have HRE := Lib.hid hr
  clear hf hF hr h2 h1
  by_cases h1 : f1 = 0
  · have h2' : f2 = 0 := by
      have := sitesF_code L (by rw [HF.out]; exact h1)
      rw [HF.out] at this
      injection this
    subst h1
    subst h2'
    by_cases h3 : r = 0
    · subst h3
      have HV0 : Hid (F = (0, 0)) := by
        show F = (0, 0)
        rw [← HFF.out]; unfold Plain.chosenF; rw [if_pos HF.out, if_neg (by rw [HRE.out]; simp)]
      go_enter Try.func18, Try.ntmps18
      go_wp2_with (first | (go_at_call 17; refine HV.out.mono ?_; rintro e w1 ⟨rfl, hx⟩; have hb := (FBlk.new w 0 0).ext hx; have HX := Lib.hid (ext_new hx); have HB := Lib.hid hb; have hlt := new_lt hx; clear hb hx) | (go_at_call 19; refine (HR.out _ (HX.out.alloc _)).mono ?_; rintro e w2 ⟨rfl, hx2⟩; have hb2 := (HB.out.alloc _).ext hx2; have hf2 := (FBlk.new w1 0 0).ext hx2; have z0 := hb2.c0; have z1 := hb2.c1; have y0 := hb2.z 0; have y1 := hb2.z 1; have p0 := hf2.c0; have p1 := hf2.c1; have q0 := hf2.z 0; have q1 := hf2.z 1; have hlt1 := new_lt hx2; have hlt2 : w.heap.size < w2.heap.size := Nat.lt_trans hlt hlt1; have HX2 := Lib.hid ((HX.out.alloc _).trans hx2); have HB2 := Lib.hid hb2; have HF2 := Lib.hid hf2; clear hb2 hf2 hx2))
      refine bodyPost_ret (v := .agg #[.int .i64 0, .int .i64 0]) (fault_res Try.results18 _ _ w.heap.size (_, _) rfl ?_) rfl ⟨by rw [HV0.out], ?_⟩
      · exact HB2.out.set _ _
      · exact HX2.out.set2 _ _
    · have HV0 : Hid (F = (r, -2)) := by
        show F = (r, -2)
        rw [← HFF.out]; unfold Plain.chosenF; rw [if_pos HF.out, if_pos (by rw [HRE.out]; exact h3), HRE.out]
      go_enter Try.func18, Try.ntmps18
      go_wp2_with (first | (go_at_call 17; refine HV.out.mono ?_; rintro e w1 ⟨rfl, hx⟩; have hb := (FBlk.new w 0 0).ext hx; have HX := Lib.hid (ext_new hx); have HB := Lib.hid hb; have hlt := new_lt hx; clear hb hx) | (go_at_call 19; refine (HR.out _ (HX.out.alloc _)).mono ?_; rintro e w2 ⟨rfl, hx2⟩; have hb2 := (HB.out.alloc _).ext hx2; have hf2 := (FBlk.new w1 0 0).ext hx2; have z0 := hb2.c0; have z1 := hb2.c1; have y0 := hb2.z 0; have y1 := hb2.z 1; have p0 := hf2.c0; have p1 := hf2.c1; have q0 := hf2.z 0; have q1 := hf2.z 1; have hlt1 := new_lt hx2; have hlt2 : w.heap.size < w2.heap.size := Nat.lt_trans hlt hlt1; have HX2 := Lib.hid ((HX.out.alloc _).trans hx2); have HB2 := Lib.hid hb2; have HF2 := Lib.hid hf2; clear hb2 hf2 hx2) | (go_at_call 20; refine (At_c _ _ _).mono ?_; rintro e w3 ⟨rfl, rfl⟩))
      refine bodyPost_ret (v := .agg #[.int .i64 r, .int .i64 (-2)]) (fault_res Try.results18 _ _ w.heap.size (_, _) rfl ?_) rfl ⟨by rw [HV0.out], ?_⟩
      · exact (((HB2.out.other (by omega) 0 _).other (by omega) 1 _).set _ _).alloc _
      · exact ((((HX2.out.setCell (p := ⟨w1.heap.size, 0, none⟩) (Nat.le_of_lt hlt) _).setCell (p := ⟨w1.heap.size, 1, none⟩) (Nat.le_of_lt hlt) _).set2 _ _).alloc _)
  · have HV0 : Hid (F = (f1, f2)) := by
      show F = (f1, f2)
      rw [← HFF.out]; unfold Plain.chosenF; rw [if_neg (by rw [HF.out]; intro h; apply h1; injection h with a b), HF.out]
    go_enter Try.func18, Try.ntmps18
    go_wp2_with (first | (go_at_call 17; refine HV.out.mono ?_; rintro e w1 ⟨rfl, hx⟩; have hb := (FBlk.new w 0 0).ext hx; have HX := Lib.hid (ext_new hx); have HB := Lib.hid hb; have hlt := new_lt hx; clear hb hx) | (go_at_call 19; refine (HR.out _ (HX.out.alloc _)).mono ?_; rintro e w2 ⟨rfl, hx2⟩; have hb2 := (HB.out.alloc _).ext hx2; have hf2 := (FBlk.new w1 f1 f2).ext hx2; have z0 := hb2.c0; have z1 := hb2.c1; have y0 := hb2.z 0; have y1 := hb2.z 1; have p0 := hf2.c0; have p1 := hf2.c1; have q0 := hf2.z 0; have q1 := hf2.z 1; have hlt1 := new_lt hx2; have hlt2 : w.heap.size < w2.heap.size := Nat.lt_trans hlt hlt1; have HX2 := Lib.hid ((HX.out.alloc _).trans hx2); have HB2 := Lib.hid hb2; have HF2 := Lib.hid hf2; clear hb2 hf2 hx2))
    refine bodyPost_ret (v := .agg #[.int .i64 f1, .int .i64 f2]) (fault_res Try.results18 _ _ w.heap.size (_, _) rfl ?_) rfl ⟨by rw [HV0.out], ?_⟩
    · exact HB2.out.set _ _
    · exact HX2.out.set2 _ _
end Go.Proofs.Ytbhcaniopdgjkaa
namespace Go.Proofs.Ytbhcaniopdgjkaa
open Go Go.Proofs Go.RowKit
open Plain (SiteD)
set_option maxHeartbeats 3200000
set_option maxRecDepth 100000
/-- A list and a fault are returned. -/
def LFRet (w : World) (l : List Int) (f : Int × Int) (e : Ending) (w' : World) : Prop := ∃ v, e = .returned (.tuple #[v, .agg #[.int .i64 f.1, .int .i64 f.2]]) ∧ w'.ownsRow w.heap.size 3 1 v l.length (l.map (Value.int .i64)) ∧ Ext w w'
theorem lf_res {fn : Func} {p u : Tmp} (h : fn.results = #[.tmp u, .cell p 25]) (tmps : Array Value) (w : World) (g : Nat) (f : Int × Int) (v : Value) (hu : tmps.getD u undef = v) (hp : tmps.getD p undef = .pointer (some ⟨g, 0, none⟩)) (hb : FBlk w g f) :
    (results fn tmps).run Try.prog w = .ok (.tuple #[v, .agg #[.int .i64 f.1, .int .i64 f.2]]) w := by
  have hp' : tmps[p]?.getD undef = .pointer (some ⟨g, 0, none⟩) := by simpa using hp
  have hu' : tmps[u]?.getD undef = v := by simpa using hu
  have h0 := hb.c0
  have h1 := hb.c1
  simp [results, h, hp', hu', go_sem, h0, h1]
/-- The faults of Left. -/
def leftFault (L : List SiteD) (ch lost : List Int) : Int × Int :=
  if Plain.chosenF L ch ≠ (0, 0) then Plain.chosenF L ch else if Plain.risingC lost 12 ≠ 0 then (Plain.risingC lost 12, -3) else (0, 0)
theorem nil_owns (w : World) (base : Nat) (e : TypeId) : w.ownsRow base e 1 (.slice none 0 0) 0 [] := ⟨rfl, .inl ⟨rfl, rfl⟩⟩
theorem FBlk.drew {w : World} {g : Nat} {f : Int × Int} (h : FBlk w g f) : FBlk w.drew g f := h
theorem chosenF_code (L : List SiteD) (ch : List Int) (h : (Plain.chosenF L ch).1 = 0) : Plain.chosenF L ch = (0, 0) := by
  unfold Plain.chosenF at *
  split at h
  · rename_i hc
    split at h
    · rename_i h2; exact absurd h h2
    · rename_i h2; rw [if_pos hc, if_neg h2]
  · rename_i hc; rw [if_neg hc]; exact sitesF_code L h
theorem chosenF_ok {L : List SiteD} {ch : List Int} (h : Plain.chosenF L ch = (0, 0)) : Plain.sitesF L = (0, 0) ∧ Plain.risingC ch L.length = 0 := by
  unfold Plain.chosenF at h
  split at h
  · rename_i hc
    split at h
    · rename_i h2; injection h with h3; exact absurd h3 h2
    · rename_i h2; exact ⟨hc, by simpa using h2⟩
  · rename_i hc; exact absurd h hc
theorem sitesF_len {L : List SiteD} (h : Plain.sitesF L = (0, 0)) : L.length ≤ 10 := by
  unfold Plain.sitesF at h
  split at h
  · cases h
  · omega
theorem rising_len_from (n : Int) : ∀ (l : List Int) (lo : Int), lo ≤ n → l.Pairwise (· < ·) → (∀ x ∈ l, lo ≤ x ∧ x < n) → (l.length : Int) ≤ n - lo
  | [], lo, h, _, _ => by simp; omega
  | x :: r, lo, h, hp, hb => by
    have h1 := hb x (by simp)
    rw [List.pairwise_cons] at hp
    have := rising_len_from n r (x + 1) (by omega) hp.2 (fun y hy => ⟨by have := hp.1 y hy; omega, (hb y (by simp [hy])).2⟩)
    simp only [List.length_cons]
    omega
theorem rising_len {l : List Int} {n : Nat} (h : Plain.risingC l n = 0) : l.length ≤ n := by
  obtain ⟨h1, h2⟩ := Plain.risingC_iff.1 h
  have := rising_len_from n l 0 (by omega) h1 h2
  omega
theorem alloc_lt {w w1 : World} (h : w.heap.size < w1.heap.size) (o : Obj) : w.heap.size < (w1.alloc o).heap.size := by
  have : (w1.alloc o).heap.size = w1.heap.size + 1 := by simp
  omega
theorem own_mono {w : World} {base base' : Nat} {e : TypeId} {size n : Nat} {v : Value} {xs : List Value} (h : w.ownsRow base' e size v n xs) (hb : base ≤ base') : w.ownsRow base e size v n xs := by
  refine ⟨h.1, ?_⟩
  rcases h.2 with h | ⟨g, cap, cur, h1, h2, r⟩
  · exact .inl h
  · exact .inr ⟨g, cap, cur, h1, Nat.le_trans hb h2, r⟩
theorem own_set {w : World} {base b : Nat} {e : TypeId} {v : Value} {n : Nat} {xs : List Value} (h : w.ownsRow base e 1 v n xs) (hb : b < base) (i : Nat) (u : Value) : (w.setCell ⟨b, i, none⟩ u).ownsRow base e 1 v n xs := ownsRow_setCell_below h hb u
theorem Left_c (A C D : Option Addr) (L : List SiteD) (ch lost : List Int) (c1 c2 c3 : Nat) (w : World) (hL : L.length ≤ c1) (hc : ch.length ≤ maxLen) (hd : lost.length ≤ maxLen) (h1 : Sites w A L) (hg : Glob w) (h2 : Sl w .i64 C ch) (h3 : Sl w .i64 D lost) :
    Calls Try.prog 14 #[.slice A L.length c1, .slice C ch.length c2, .slice D lost.length c3] w (LFRet w (if leftFault L ch lost = (0, 0) then Plain.leftF L ch lost else []) (leftFault L ch lost)) := by
  have HX0 := Lib.hid ((Ext.refl w).alloc (.cells #[.int .i64 0, .int .i64 0] 25))
  have HV := Lib.hid (check_c A C L ch c1 c2 (w.alloc (.cells #[.int .i64 0, .int .i64 0] 25)) hc (fun w1 x => Validate_c A L c1 w1 hL ((h1.ext HX0.out).ext x) ((hg.ext HX0.out).ext x)) (h2.ext HX0.out))
  obtain ⟨⟨f1, f2⟩, hf⟩ : ∃ f, Plain.chosenF L ch = f := ⟨_, rfl⟩
  rw [hf] at HV
  have HF := Lib.hid hf
  clear hf
  by_cases g1 : f1 = 0
  · have HC0 := Lib.hid (chosenF_code L ch (by rw [HF.out]; exact g1))
    have h2' : f2 = 0 := by
      have := HC0.out
      rw [HF.out] at this
      injection this
    subst g1
    subst h2'
    obtain ⟨o1, o2⟩ := chosenF_ok HC0.out
    have o3 := sitesF_len o1
    have o4 := rising_len o2
    have HR := Lib.hid (fun w1 (x : Ext w w1) => Rising_c D lost c3 12 w1 hd (h3.ext x))
    have HL := Lib.hid (fun w1 (x : Ext w w1) => left_c A C D L ch lost c1 c2 c3 w1 (by omega) hd (by omega) (h1.ext x) (h2.ext x) (h3.ext x) (Plain.risingC_iff.1 o2).2)
    obtain ⟨r, hr⟩ : ∃ r, Plain.risingC lost 12 = r := ⟨_, rfl⟩
    rw [hr] at HR
    have HRE := Lib.hid hr
    clear hr h1 h2 h3 o1 o2 o3 o4 hg
    by_cases g2 : r = 0
    · subst g2
      have HE : Hid (leftFault L ch lost = (0, 0)) := by
        show _ = _
        unfold leftFault; rw [HF.out, if_neg (by simp), if_neg (by rw [HRE.out]; simp)]
      rw [if_pos HE.out, HE.out]
      go_enter Try.func14, Try.ntmps14
      go_wp2_with (first | (go_at_call 45; refine HV.out.mono ?_; rintro e w1 ⟨rfl, hx⟩; have hb := (FBlk.new w 0 0).ext hx; have z0 := hb.c0; have z1 := hb.c1; have y0 := hb.z 0; have y1 := hb.z 1; have HX := Lib.hid (ext_new hx); have HB := Lib.hid hb; have hlt := new_lt hx; clear hb hx) | (go_at_call 46; refine (HR.out _ (HX.out.alloc _)).mono ?_; rintro e w2 ⟨rfl, rfl⟩) | (go_at_call 48; refine (HL.out _ (HX.out.alloc _)).mono ?_; rintro e w3 ⟨v3, rfl, ho3, hx3⟩; have hb3 := (HB.out.alloc _).ext hx3; have p0 := hb3.c0; have p1 := hb3.c1; have q0 := hb3.z 0; have q1 := hb3.z 1; have HB3 := Lib.hid hb3; have HO3 := Lib.hid ho3; have hbs : w.heap.size < (w1.alloc (.cells #[.int .i64 0, .int .i64 0] 25)).heap.size := alloc_lt hlt _; have HX3 := Lib.hid ((HX.out.alloc _).trans hx3); obtain ⟨A3, d3, rfl, _, _, _, _⟩ := own_sl ho3; clear ho3 hb3 hx3))
      refine bodyPost_ret (v := .tuple #[_, .agg #[.int .i64 0, .int .i64 0]]) (lf_res Try.results14 _ _ w.heap.size (_, _) _ rfl rfl ?_) rfl ⟨_, rfl, ?_, ?_⟩
      · exact HB3.out.set _ _
      · exact own_mono (own_set (own_set HO3.out hbs 0 _) hbs 1 _) (Nat.le_of_lt hbs)
      · exact HX3.out.set2 _ _
    · have HE : Hid (leftFault L ch lost = (r, -3)) := by
        show _ = _
        unfold leftFault; rw [HF.out, if_neg (by simp), if_pos (by rw [HRE.out]; exact g2), HRE.out]
      rw [if_neg (by rw [HE.out]; intro h; apply g2; injection h), HE.out]
      go_enter Try.func14, Try.ntmps14
      go_wp2_with (first | (go_at_call 45; refine HV.out.mono ?_; rintro e w1 ⟨rfl, hx⟩; have hb := (FBlk.new w 0 0).ext hx; have z0 := hb.c0; have z1 := hb.c1; have y0 := hb.z 0; have y1 := hb.z 1; have HX := Lib.hid (ext_new hx); have HB := Lib.hid hb; have hlt := new_lt hx; clear hb hx) | (go_at_call 46; refine (HR.out _ (HX.out.alloc _)).mono ?_; rintro e w2 ⟨rfl, rfl⟩) | (go_at_call 47; refine (fault_c _ _ _).mono ?_; rintro e w3 ⟨rfl, rfl⟩))
      refine bodyPost_ret (v := .tuple #[.slice none 0 0, .agg #[.int .i64 r, .int .i64 (-3)]]) (lf_res Try.results14 _ _ w.heap.size (_, _) _ rfl rfl ?_) rfl ⟨_, rfl, nil_owns _ _ _, ?_⟩
      · exact ((HB.out.set _ _).alloc _).alloc _
      · exact ((HX.out.set2 _ _).alloc _).alloc _
  · have HE : Hid (leftFault L ch lost = (f1, f2)) := by
      show _ = _
      unfold leftFault; rw [HF.out, if_pos (by intro h; apply g1; injection h)]
    rw [if_neg (by rw [HE.out]; intro h; apply g1; injection h), HE.out]
    go_enter Try.func14, Try.ntmps14
    go_wp2_with (first | (go_at_call 45; refine HV.out.mono ?_; rintro e w1 ⟨rfl, hx⟩; have hb := (FBlk.new w 0 0).ext hx; have z0 := hb.c0; have z1 := hb.c1; have y0 := hb.z 0; have y1 := hb.z 1; have HX := Lib.hid (ext_new hx); have HB := Lib.hid hb; have hlt := new_lt hx; clear hb hx))
    go_region
    all_goals go_wp2
    all_goals refine bodyPost_ret (v := .tuple #[.slice none 0 0, .agg #[.int .i64 f1, .int .i64 f2]]) (lf_res Try.results14 _ _ w.heap.size (_, _) _ rfl rfl ?_) rfl ⟨_, rfl, nil_owns _ _ _, ?_⟩
    all_goals first | exact ((HB.out.set _ _).alloc _).drew | exact ((HX.out.set2 _ _).alloc _).drew
end Go.Proofs.Ytbhcaniopdgjkaa
