import Derived.Test.YtbhcaniopdgjkaaMg22
namespace Go.Proofs.Ytbhcaniopdgjkaa
open Go Go.Proofs Go.RowKit
open Plain (SiteD)
set_option maxHeartbeats 1000000
set_option maxRecDepth 100000
/-- The three places of the check at the start. -/
def plL : List SiteD := [⟨[97], [1], 5, 0⟩, ⟨[98], [1, 2], 3, 50⟩, ⟨[99], [3], 4, 0⟩]
def PlRet (w : World) (e : Ending) (w' : World) : Prop := ∃ b, e = .returned (.slice (some ⟨b, 0, none⟩) 3 3) ∧ Sites w' (some ⟨b, 0, none⟩) plL ∧ Ext w w'
theorem sl_blk {w : World} {b : Nat} {l : List Int} (h : w.heap[b]? = some (.cells (l.map (Value.int .i64)).toArray 3 (0, 0))) : Sl w .i64 (some ⟨b, 0, none⟩) l := by
  refine Sl.mk fun i x hx => ⟨_, rfl, ?_⟩
  have hadd : (⟨b, 0, none⟩ : Addr).add i = ⟨b, i, none⟩ := by unfold Addr.add; split <;> simp_all
  rw [hadd, blk_cell h]
  simp [hx]
def plW (w : World) : World :=
  ((((w.alloc (.cells #[.int .i64 1] 3)).alloc (.cells #[.int .i64 1, .int .i64 2] 3)).alloc (.cells #[.int .i64 3] 3)).alloc
      (.cells #[.string ⟨#[97]⟩, .slice (some ⟨w.heap.size, 0, none⟩) 1 1, .int .i64 5, .int .i64 0, .string ⟨#[98]⟩, .slice (some ⟨w.heap.size + 1, 0, none⟩) 2 2, .int .i64 3, .int .i64 50, .string ⟨#[99]⟩, .slice (some ⟨w.heap.size + 1 + 1, 0, none⟩) 1 1, .int .i64 4, .int .i64 0] 52))
theorem places_sites (w : World) : Sites (plW w) (some ⟨w.heap.size + 1 + 1 + 1, 0, none⟩) plL := by
  have b0 : (plW w).heap[w.heap.size]? = some (.cells (([1] : List Int).map (Value.int .i64)).toArray 3 (0, 0)) := by
    unfold plW
    simp only [alloc_heap, alloc_size]
    rw [if_neg (by omega), if_neg (by omega), if_neg (by omega), if_pos trivial]; rfl
  have b1 : (plW w).heap[w.heap.size + 1]? = some (.cells (([1, 2] : List Int).map (Value.int .i64)).toArray 3 (0, 0)) := by
    unfold plW
    simp only [alloc_heap, alloc_size]
    rw [if_neg (by omega), if_neg (by omega), if_pos trivial]; rfl
  have b2 : (plW w).heap[w.heap.size + 1 + 1]? = some (.cells (([3] : List Int).map (Value.int .i64)).toArray 3 (0, 0)) := by
    unfold plW
    simp only [alloc_heap, alloc_size]
    rw [if_neg (by omega), if_pos trivial]; rfl
  have b3 : (plW w).heap[w.heap.size + 1 + 1 + 1]? = some (.cells #[.string ⟨#[97]⟩, .slice (some ⟨w.heap.size, 0, none⟩) 1 1, .int .i64 5, .int .i64 0, .string ⟨#[98]⟩, .slice (some ⟨w.heap.size + 1, 0, none⟩) 2 2, .int .i64 3, .int .i64 50, .string ⟨#[99]⟩, .slice (some ⟨w.heap.size + 1 + 1, 0, none⟩) 1 1, .int .i64 4, .int .i64 0] 52 (0, 0)) := by
    unfold plW
    simp only [alloc_heap, alloc_size]
    rw [if_pos trivial]
  intro i s hs
  refine ⟨_, _, rfl, ?_⟩
  match i, hs with
  | 0, hs =>
    cases hs
    exact ⟨⟨⟨#[97]⟩, blk_cell b3 0, rfl, by decide⟩, ⟨_, 1, blk_cell b3 1, by decide, by decide, (fun h => by cases h), sl_blk b0⟩, blk_cell b3 2, blk_cell b3 3, by unfold I64; decide, by unfold I64; decide⟩
  | 1, hs =>
    cases hs
    exact ⟨⟨⟨#[98]⟩, blk_cell b3 4, rfl, by decide⟩, ⟨_, 2, blk_cell b3 5, by decide, by decide, (fun h => by cases h), sl_blk b1⟩, blk_cell b3 6, blk_cell b3 7, by unfold I64; decide, by unfold I64; decide⟩
  | 2, hs =>
    cases hs
    exact ⟨⟨⟨#[99]⟩, blk_cell b3 8, rfl, by decide⟩, ⟨_, 1, blk_cell b3 9, by decide, by decide, (fun h => by cases h), sl_blk b2⟩, blk_cell b3 10, blk_cell b3 11, by unfold I64; decide, by unfold I64; decide⟩
  | n + 3, hs => simp [plL] at hs
theorem places_c (w : World) : Calls Try.prog 54 #[] w (PlRet w) := by
  go_enter Try.func54, Try.ntmps54
  go_wp2
  refine bodyPost_ret (v := .slice (some ⟨w.heap.size + 1 + 1 + 1, 0, none⟩) 3 3) (results_tmp Try.results54 _ _ _) rfl ⟨_, rfl, places_sites w, ((((Ext.refl w).alloc _).alloc _).alloc _).alloc _⟩
end Go.Proofs.Ytbhcaniopdgjkaa
namespace Go.Proofs.Ytbhcaniopdgjkaa
open Go Go.Proofs Go.RowKit
open Plain (SiteD)
set_option maxHeartbeats 1000000
set_option maxRecDepth 100000
theorem sitesGo_nums : ∀ {r before : List SiteD}, Plain.sitesGo before r = (0, 0) → ∀ s ∈ r, (0 ≤ s.cost ∧ s.cost ≤ 1000000) ∧ 0 ≤ s.wear ∧ s.wear ≤ 90
  | [], _, _, s, hs => by simp at hs
  | s :: r, before, h, t, ht => by
    rw [Plain.sitesGo] at h
    split at h
    · rename_i hc; injection h with h1; exact absurd h1 hc
    · rename_i hc
      rcases List.mem_cons.1 ht with rfl | ht
      · have hc' : Plain.siteC before t = 0 := by simpa using hc
        unfold Plain.siteC at hc'
        split at hc'
        · cases hc'
        · split at hc'
          · rename_i h2; exact absurd hc' h2
          · split at hc'
            · cases hc'
            · rename_i h3; omega
      · exact sitesGo_nums h t ht
theorem sites_nums {L : List SiteD} (h : Plain.sitesF L = (0, 0)) : ∀ s ∈ L, (0 ≤ s.cost ∧ s.cost ≤ 1000000) ∧ 0 ≤ s.wear ∧ s.wear ≤ 90 := by
  unfold Plain.sitesF at h
  split at h
  · cases h
  · exact sitesGo_nums h
def IRet (w : World) (n : Int) (f : Int × Int) (e : Ending) (w' : World) : Prop := e = .returned (.tuple #[.int .i64 n, .agg #[.int .i64 f.1, .int .i64 f.2]]) ∧ Ext w w'
def badM (made life : Int) : Prop := made < 0 ∨ 9999 < made ∨ life < 1 ∨ 1000 < life
def lifeFault (L : List SiteD) (site made life : Int) : Int × Int :=
  if Plain.sitesF L ≠ (0, 0) then Plain.sitesF L else if site < 0 ∨ (L.length : Int) ≤ site then (4, -2) else if made < 0 ∨ 9999 < made ∨ life < 1 ∨ 1000 < life then (4, -3) else (0, 0)
def wearAt (L : List SiteD) (site : Int) : Int := (L[site.toNat]?.map SiteD.wear).getD 0
def lifeV (L : List SiteD) (site life : Int) : Int := max (life * (100 - wearAt L site) / 100) 1
def lifeR (L : List SiteD) (site made life : Int) : Int := if lifeFault L site made life = (0, 0) then lifeV L site life else 0
theorem Life_c (A : Option Addr) (L : List SiteD) (c1 : Nat) (site made life : Int) (w : World) (hL : L.length ≤ c1) (_hc1 : c1 ≤ maxLen) (h1 : Sites w A L) (hg : Glob w) :
    Calls Try.prog 28 #[.slice A L.length c1, .int .i64 site, .agg #[.int .i64 made, .int .i64 life]] w (IRet w (lifeR L site made life) (lifeFault L site made life)) := by
  have HX0 := Lib.hid (((Ext.refl w).alloc (.cells #[.int .i64 made, .int .i64 life] 43)).alloc (.cells #[.int .i64 0, .int .i64 0] 25))
  have HV := Lib.hid (Validate_c A L c1 ((w.alloc (.cells #[.int .i64 made, .int .i64 life] 43)).alloc (.cells #[.int .i64 0, .int .i64 0] 25)) hL (h1.ext HX0.out) (hg.ext HX0.out))
  have HB0 : Hid (FBlk ((w.alloc (.cells #[.int .i64 made, .int .i64 life] 43)).alloc (.cells #[.int .i64 0, .int .i64 0] 25)) (w.heap.size + 1) (0, 0)) := by
    show _ = _
    simp only [alloc_heap, alloc_size]
    rw [if_pos trivial]
  have HB1 : Hid (((w.alloc (.cells #[.int .i64 made, .int .i64 life] 43)).alloc (.cells #[.int .i64 0, .int .i64 0] 25)).heap[w.heap.size]? = some (.cells #[.int .i64 made, .int .i64 life] 43 (0, 0))) := by
    show _ = _
    simp only [alloc_heap, alloc_size]
    rw [if_neg (by omega), if_pos trivial]
  obtain ⟨⟨f1, f2⟩, hf⟩ : ∃ f, Plain.sitesF L = f := ⟨_, rfl⟩
  rw [hf] at HV
  have HF := Lib.hid hf
  have HH1 := Lib.hid h1
  unfold maxLen at _hc1
  clear hf h1 hg
  by_cases g1 : f1 = 0
  · have h2' : f2 = 0 := by
      have := sitesF_code L (by rw [HF.out]; exact g1)
      rw [HF.out] at this
      injection this
    subst g1
    subst h2'
    by_cases g2 : site < 0 ∨ (L.length : Int) ≤ site
    · have HE : Hid (lifeFault L site made life = (4, -2)) := by
        show _ = _
        unfold lifeFault; rw [HF.out, if_neg (by simp), if_pos g2]
      have HE2 : Hid (lifeR L site made life = 0) := by
        show _ = _
        unfold lifeR; rw [if_neg (by rw [HE.out]; simp)]
      rw [HE.out, HE2.out]
      have HG2 := Lib.hid g2
      clear g2
      by_cases g3 : site < 0
      · go_enter Try.func28, Try.ntmps28
        go_wp2_with (first | (go_at_call 22; refine HV.out.mono ?_; rintro e w1 ⟨rfl, hx⟩; have hb := HB0.out.ext hx; have hb1 := ext_blk hx HB1.out; have x1 : w1.cell? ⟨w.heap.size, 0, none⟩ = some (.int .i64 made) := blk_cell hb1 0; have x2 : w1.cell? ⟨w.heap.size, 1, none⟩ = some (.int .i64 life) := blk_cell hb1 1; have z0 := hb.c0; have z1 := hb.c1; have y0 := hb.z 0; have y1 := hb.z 1; have HX := Lib.hid (HX0.out.trans hx); have HB := Lib.hid hb; have hlt1 : w.heap.size + 1 < w1.heap.size := blk_lt hb; have hlt0 : w.heap.size < w1.heap.size := blk_lt hb1; have hlt2 : w.heap.size < w1.heap.size + 1 := Nat.lt_succ_of_lt hlt0; clear hb hx hb1) | (go_at_call 47; refine (fault_c _ _ _).mono ?_; rintro e w3 ⟨rfl, rfl⟩))
        refine bodyPost_ret (v := .tuple #[.int .i64 0, .agg #[.int .i64 4, .int .i64 (-2)]]) (lf_res Try.results28 _ _ (w.heap.size + 1) (_, _) _ rfl rfl ?_) rfl ⟨rfl, ?_⟩
        · exact ((HB.out.set _ _).alloc _).alloc _
        · exact ((HX.out.set2at (by omega) _ _).alloc _).alloc _
      · have g4 : (L.length : Int) ≤ site := by have := HG2.out; omega
        go_enter Try.func28, Try.ntmps28
        go_wp2_with (first | (go_at_call 22; refine HV.out.mono ?_; rintro e w1 ⟨rfl, hx⟩; have hb := HB0.out.ext hx; have hb1 := ext_blk hx HB1.out; have x1 : w1.cell? ⟨w.heap.size, 0, none⟩ = some (.int .i64 made) := blk_cell hb1 0; have x2 : w1.cell? ⟨w.heap.size, 1, none⟩ = some (.int .i64 life) := blk_cell hb1 1; have z0 := hb.c0; have z1 := hb.c1; have y0 := hb.z 0; have y1 := hb.z 1; have HX := Lib.hid (HX0.out.trans hx); have HB := Lib.hid hb; have hlt1 : w.heap.size + 1 < w1.heap.size := blk_lt hb; have hlt0 : w.heap.size < w1.heap.size := blk_lt hb1; have hlt2 : w.heap.size < w1.heap.size + 1 := Nat.lt_succ_of_lt hlt0; clear hb hx hb1) | (go_at_call 47; refine (fault_c _ _ _).mono ?_; rintro e w3 ⟨rfl, rfl⟩))
        refine bodyPost_ret (v := .tuple #[.int .i64 0, .agg #[.int .i64 4, .int .i64 (-2)]]) (lf_res Try.results28 _ _ (w.heap.size + 1) (_, _) _ rfl rfl ?_) rfl ⟨rfl, ?_⟩
        · exact ((HB.out.set _ _).alloc _).alloc _
        · exact ((HX.out.set2at (by omega) _ _).alloc _).alloc _
    · have hs0 : ¬ site < 0 := by omega
      have hs1 : ¬ (L.length : Int) ≤ site := by omega
      by_cases g3 : made < 0 ∨ 9999 < made ∨ life < 1 ∨ 1000 < life
      · have HE : Hid (lifeFault L site made life = (4, -3)) := by
          show _ = _
          unfold lifeFault; rw [HF.out, if_neg (by simp), if_neg g2, if_pos g3]
        have HE2 : Hid (lifeR L site made life = 0) := by
          show _ = _
          unfold lifeR; rw [if_neg (by rw [HE.out]; simp)]
        rw [HE.out, HE2.out]
        have HG3 := Lib.hid g3
        clear g2 g3
        by_cases e1 : made < 0
        · go_enter Try.func28, Try.ntmps28
          go_wp2_with (first | (go_at_call 22; refine HV.out.mono ?_; rintro e w1 ⟨rfl, hx⟩; have hb := HB0.out.ext hx; have hb1 := ext_blk hx HB1.out; have x1 : w1.cell? ⟨w.heap.size, 0, none⟩ = some (.int .i64 made) := blk_cell hb1 0; have x2 : w1.cell? ⟨w.heap.size, 1, none⟩ = some (.int .i64 life) := blk_cell hb1 1; have z0 := hb.c0; have z1 := hb.c1; have y0 := hb.z 0; have y1 := hb.z 1; have HX := Lib.hid (HX0.out.trans hx); have HB := Lib.hid hb; have hlt1 : w.heap.size + 1 < w1.heap.size := blk_lt hb; have hlt0 : w.heap.size < w1.heap.size := blk_lt hb1; have hlt2 : w.heap.size < w1.heap.size + 1 := Nat.lt_succ_of_lt hlt0; clear hb hx hb1) | (go_at_call 47; refine (fault_c _ _ _).mono ?_; rintro e w3 ⟨rfl, rfl⟩))
          refine bodyPost_ret (v := .tuple #[.int .i64 0, .agg #[.int .i64 4, .int .i64 (-3)]]) (lf_res Try.results28 _ _ (w.heap.size + 1) (_, _) _ rfl rfl ?_) rfl ⟨rfl, ?_⟩
          · exact ((HB.out.set _ _).alloc _).alloc _
          · exact ((HX.out.set2at (by omega) _ _).alloc _).alloc _
        by_cases e2 : 9999 < made
        · go_enter Try.func28, Try.ntmps28
          go_wp2_with (first | (go_at_call 22; refine HV.out.mono ?_; rintro e w1 ⟨rfl, hx⟩; have hb := HB0.out.ext hx; have hb1 := ext_blk hx HB1.out; have x1 : w1.cell? ⟨w.heap.size, 0, none⟩ = some (.int .i64 made) := blk_cell hb1 0; have x2 : w1.cell? ⟨w.heap.size, 1, none⟩ = some (.int .i64 life) := blk_cell hb1 1; have z0 := hb.c0; have z1 := hb.c1; have y0 := hb.z 0; have y1 := hb.z 1; have HX := Lib.hid (HX0.out.trans hx); have HB := Lib.hid hb; have hlt1 : w.heap.size + 1 < w1.heap.size := blk_lt hb; have hlt0 : w.heap.size < w1.heap.size := blk_lt hb1; have hlt2 : w.heap.size < w1.heap.size + 1 := Nat.lt_succ_of_lt hlt0; clear hb hx hb1) | (go_at_call 47; refine (fault_c _ _ _).mono ?_; rintro e w3 ⟨rfl, rfl⟩))
          refine bodyPost_ret (v := .tuple #[.int .i64 0, .agg #[.int .i64 4, .int .i64 (-3)]]) (lf_res Try.results28 _ _ (w.heap.size + 1) (_, _) _ rfl rfl ?_) rfl ⟨rfl, ?_⟩
          · exact ((HB.out.set _ _).alloc _).alloc _
          · exact ((HX.out.set2at (by omega) _ _).alloc _).alloc _
        by_cases e3 : life < 1
        · go_enter Try.func28, Try.ntmps28
          go_wp2_with (first | (go_at_call 22; refine HV.out.mono ?_; rintro e w1 ⟨rfl, hx⟩; have hb := HB0.out.ext hx; have hb1 := ext_blk hx HB1.out; have x1 : w1.cell? ⟨w.heap.size, 0, none⟩ = some (.int .i64 made) := blk_cell hb1 0; have x2 : w1.cell? ⟨w.heap.size, 1, none⟩ = some (.int .i64 life) := blk_cell hb1 1; have z0 := hb.c0; have z1 := hb.c1; have y0 := hb.z 0; have y1 := hb.z 1; have HX := Lib.hid (HX0.out.trans hx); have HB := Lib.hid hb; have hlt1 : w.heap.size + 1 < w1.heap.size := blk_lt hb; have hlt0 : w.heap.size < w1.heap.size := blk_lt hb1; have hlt2 : w.heap.size < w1.heap.size + 1 := Nat.lt_succ_of_lt hlt0; clear hb hx hb1) | (go_at_call 47; refine (fault_c _ _ _).mono ?_; rintro e w3 ⟨rfl, rfl⟩))
          refine bodyPost_ret (v := .tuple #[.int .i64 0, .agg #[.int .i64 4, .int .i64 (-3)]]) (lf_res Try.results28 _ _ (w.heap.size + 1) (_, _) _ rfl rfl ?_) rfl ⟨rfl, ?_⟩
          · exact ((HB.out.set _ _).alloc _).alloc _
          · exact ((HX.out.set2at (by omega) _ _).alloc _).alloc _
        have e4 : 1000 < life := by have := HG3.out; omega
        go_enter Try.func28, Try.ntmps28
        go_wp2_with (first | (go_at_call 22; refine HV.out.mono ?_; rintro e w1 ⟨rfl, hx⟩; have hb := HB0.out.ext hx; have hb1 := ext_blk hx HB1.out; have x1 : w1.cell? ⟨w.heap.size, 0, none⟩ = some (.int .i64 made) := blk_cell hb1 0; have x2 : w1.cell? ⟨w.heap.size, 1, none⟩ = some (.int .i64 life) := blk_cell hb1 1; have z0 := hb.c0; have z1 := hb.c1; have y0 := hb.z 0; have y1 := hb.z 1; have HX := Lib.hid (HX0.out.trans hx); have HB := Lib.hid hb; have hlt1 : w.heap.size + 1 < w1.heap.size := blk_lt hb; have hlt0 : w.heap.size < w1.heap.size := blk_lt hb1; have hlt2 : w.heap.size < w1.heap.size + 1 := Nat.lt_succ_of_lt hlt0; clear hb hx hb1) | (go_at_call 47; refine (fault_c _ _ _).mono ?_; rintro e w3 ⟨rfl, rfl⟩))
        refine bodyPost_ret (v := .tuple #[.int .i64 0, .agg #[.int .i64 4, .int .i64 (-3)]]) (lf_res Try.results28 _ _ (w.heap.size + 1) (_, _) _ rfl rfl ?_) rfl ⟨rfl, ?_⟩
        · exact ((HB.out.set _ _).alloc _).alloc _
        · exact ((HX.out.set2at (by omega) _ _).alloc _).alloc _
      · have HE : Hid (lifeFault L site made life = (0, 0)) := by
          show _ = _
          unfold lifeFault; rw [HF.out, if_neg (by simp), if_neg g2, if_neg g3]
        have HE2 : Hid (lifeR L site made life = lifeV L site life) := by
          show _ = _
          unfold lifeR; rw [if_pos HE.out]
        rw [HE.out, HE2.out]
        obtain ⟨X, rfl⟩ : ∃ X : Nat, site = X := ⟨site.toNat, by omega⟩
        have hXL : X < L.length := by omega
        obtain ⟨s, hs⟩ : ∃ s, L[X]? = some s := ⟨_, List.getElem?_eq_getElem hXL⟩
        have hwe := (sites_nums HF.out s (List.mem_of_getElem? hs)).2
        obtain ⟨b, o, rfl, hsite⟩ := HH1.out X s hs
        have HWE := Lib.hid hsite.wear
        have HLV : Hid (lifeV L (X : Int) life = max (life * (100 - s.wear) / 100) 1) := by
          show _ = _
          unfold lifeV wearAt
          rw [Int.toNat_natCast, hs]; rfl
        rw [HLV.out]
        obtain ⟨we, hwee⟩ : ∃ we, we = s.wear := ⟨_, rfl⟩
        rw [← hwee] at HWE hwe ⊢
        have w1a : ¬ made < 0 := by omega
        have w1b : ¬ 9999 < made := by omega
        have w1c : ¬ life < 1 := by omega
        have w1d : ¬ 1000 < life := by omega
        have m0 : 0 ≤ life * (100 - we) := Int.mul_nonneg (by omega) (by omega)
        have m1 : life * (100 - we) ≤ 1000 * 100 := Int.mul_le_mul (by omega) (by omega) (by omega) (by omega)
        have ww1 : IntKind.i64.wrap (100 - we) = 100 - we := IntWalk.i64_in _ (by omega)
        have ww2 : IntKind.i64.wrap (life * (100 - we)) = life * (100 - we) := IntWalk.i64_in _ (by omega)
        have ww3 : (life * (100 - we)).tdiv 100 = life * (100 - we) / 100 := Int.tdiv_eq_ediv_of_nonneg m0
        have ww4 : IntKind.i64.wrap (life * (100 - we) / 100) = life * (100 - we) / 100 := IntWalk.i64_in _ (by omega)
        have hX0 : (0 : Int) ≤ (X : Int) := by omega
        have hX1 : (X : Int) < (L.length : Int) := by omega
        clear g2 g3 hs hsite hwee
        go_enter Try.func28, Try.ntmps28
        go_wp2_with (first | (go_at_call 22; refine HV.out.mono ?_; rintro e w1 ⟨rfl, hx⟩; have hb := HB0.out.ext hx; have hb1 := ext_blk hx HB1.out; have x1 : w1.cell? ⟨w.heap.size, 0, none⟩ = some (.int .i64 made) := blk_cell hb1 0; have x2 : w1.cell? ⟨w.heap.size, 1, none⟩ = some (.int .i64 life) := blk_cell hb1 1; have z0 := hb.c0; have z1 := hb.c1; have y0 := hb.z 0; have y1 := hb.z 1; have HX := Lib.hid (HX0.out.trans hx); have HB := Lib.hid hb; have hlt1 : w.heap.size + 1 < w1.heap.size := blk_lt hb; have hlt0 : w.heap.size < w1.heap.size := blk_lt hb1; have hlt2 : w.heap.size < w1.heap.size + 1 := Nat.lt_succ_of_lt hlt0; clear hb hx hb1))
        have v1 := HX.out.cell HWE.out
        have hbl := World.block_lt_of_cell? w1 _ v1
        have hbw := World.block_lt_of_cell? w _ HWE.out
        simp only at hbl hbw
        have hbn : w.heap.size + 1 ≠ b := by omega
        have hbn2 : b ≠ w.heap.size + 1 := by omega
        go_region_held3 (fun w' => w'.cell? ⟨w.heap.size, 1, none⟩ = some (.int .i64 life) ∧ w'.cell? ⟨b, o + X * 4 + 3, none⟩ = some (.int .i64 we)) (go_keep) (fail)
        all_goals go_wp2
        all_goals refine bodyPost_ret (v := .tuple #[.int .i64 (max (life * (100 - we) / 100) 1), .agg #[.int .i64 0, .int .i64 0]]) (lf_res Try.results28 _ _ (w.heap.size + 1) (_, _) _ rfl rfl ?_) rfl ⟨rfl, ?_⟩
        all_goals first | exact ((HB.out.set _ _).alloc _).drew | exact ((HX.out.set2at (by omega) _ _).alloc _).drew
  · have HE : Hid (lifeFault L site made life = (f1, f2)) := by
      show _ = _
      unfold lifeFault; rw [HF.out, if_pos (by intro h; apply g1; injection h)]
    have HE2 : Hid (lifeR L site made life = 0) := by
      show _ = _
      unfold lifeR; rw [if_neg (by rw [HE.out]; intro h; apply g1; injection h)]
    rw [HE.out, HE2.out]
    go_enter Try.func28, Try.ntmps28
    go_wp2_with (first | (go_at_call 22; refine HV.out.mono ?_; rintro e w1 ⟨rfl, hx⟩; have hb := HB0.out.ext hx; have hb1 := ext_blk hx HB1.out; have x1 : w1.cell? ⟨w.heap.size, 0, none⟩ = some (.int .i64 made) := blk_cell hb1 0; have x2 : w1.cell? ⟨w.heap.size, 1, none⟩ = some (.int .i64 life) := blk_cell hb1 1; have z0 := hb.c0; have z1 := hb.c1; have y0 := hb.z 0; have y1 := hb.z 1; have HX := Lib.hid (HX0.out.trans hx); have HB := Lib.hid hb; have hlt1 : w.heap.size + 1 < w1.heap.size := blk_lt hb; have hlt0 : w.heap.size < w1.heap.size := blk_lt hb1; have hlt2 : w.heap.size < w1.heap.size + 1 := Nat.lt_succ_of_lt hlt0; clear hb hx hb1))
    go_region
    all_goals go_wp2
    all_goals refine bodyPost_ret (v := .tuple #[.int .i64 0, .agg #[.int .i64 f1, .int .i64 f2]]) (lf_res Try.results28 _ _ (w.heap.size + 1) (_, _) _ rfl rfl ?_) rfl ⟨rfl, ?_⟩
    all_goals first | exact ((HB.out.set _ _).alloc _).drew | exact ((HX.out.set2at (by omega) _ _).alloc _).drew
end Go.Proofs.Ytbhcaniopdgjkaa
