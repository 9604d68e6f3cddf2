import Derived.Test.YtbhcaniopdgjkaaMg37
import Derived.Test.YtbhcaniopdgjkaaMg36
import Derived.Test.YtbhcaniopdgjkaaMg38
namespace Go.Proofs.Ytbhcaniopdgjkaa
open Go Go.Proofs Go.RowKit
open Plain (SiteD)
set_option maxHeartbeats 4000000
set_option maxRecDepth 100000
theorem leftFault_ok' {L : List SiteD} {ch lost : List Int} (h : leftFault L ch lost = (0, 0)) : Plain.sitesF L = (0, 0) ∧ Plain.risingC ch L.length = 0 ∧ Plain.risingC lost 12 = 0 := by
  unfold leftFault at h
  split at h
  · rename_i hc; exact absurd h hc
  · rename_i hc
    obtain ⟨a, b⟩ := chosenF_ok (by simpa using hc)
    split at h
    · rename_i h2; injection h with h3; exact absurd h3 h2
    · rename_i h2; exact ⟨a, b, by simpa using h2⟩
theorem leftFault_all {L : List SiteD} {ch lost : List Int} (h : leftFault L ch lost = (0, 0)) : leftFault L (upTo L.length) lost = (0, 0) := by
  obtain ⟨a, _, c⟩ := leftFault_ok' h
  unfold leftFault
  rw [if_neg (by simpa using sub_upTo_chosen a (List.Sublist.refl _)), if_neg (by simpa using c)]
theorem free_len {L : List SiteD} {ch lost : List Int} (h : Plain.sitesF L = (0, 0)) : (freeF L ch lost).length ≤ 10 := by
  have := (free_sub L ch lost).length_le
  rw [upTo_len] at this
  have := sitesF_len h
  omega
theorem tog_chosen {L : List SiteD} {ch lost c : List Int} (h : leftFault L ch lost = (0, 0)) (hc : c.Sublist (freeF L ch lost)) : Plain.chosenF L (sortI (Plain.leftF L ch lost ++ c)) = (0, 0) := by
  obtain ⟨a, b, _⟩ := leftFault_ok' h
  rw [tog_merged b hc]
  unfold Plain.chosenF
  rw [if_pos a, if_neg (by simpa using Plain.merged_rising _ _ _)]
theorem fblk_new1 (w : World) (o : Obj) (a b : Int) : FBlk ((w.alloc o).alloc (.cells #[.int .i64 a, .int .i64 b] 25)) (w.heap.size + 1) (a, b) := by
  have := FBlk.new (w.alloc o) a b
  rwa [alloc_size] at this
theorem Restore_c (A C D : Option Addr) (L : List SiteD) (ch lost : List Int) (c1 c2 c3 : Nat) (losses left : Int) (w : World) (hL : L.length ≤ c1) (hc : ch.length ≤ maxLen) (hd : lost.length ≤ maxLen) (h1 : Sites w A L) (hg : Glob w) (h2 : Sl w .i64 C ch) (h3 : Sl w .i64 D lost) :
    Calls Try.prog 43 #[.slice A L.length c1, .slice C ch.length c2, .slice D lost.length c3, .int .i64 losses, .int .i64 left] w (CRet w (restR L ch lost losses left).1 (restR L ch lost losses left).2.1 (restR L ch lost losses left).2.2) := by
  have HX0 := Lib.hid (w4_ext w A L.length c1 losses left)
  obtain ⟨hb0, hb1, hb2, hb3⟩ := w4_blk w A L.length c1 losses left
  have HLE := Lib.hid (Left_c A C D L ch lost c1 c2 c3 _ hL hc hd (h1.ext HX0.out) (hg.ext HX0.out) (h2.ext HX0.out) (h3.ext HX0.out))
  have HB0 := Lib.hid hb0
  have HB1 := Lib.hid hb1
  have HB2 := Lib.hid hb2
  have HB3 := Lib.hid hb3
  have HSC := Lib.hid (leftFault_code L ch lost)
  unfold restR endR restFault
  have HH : Hid (leftFault L ch lost = (0, 0) → inB losses 0 12 = true → ∀ wc, Ext (w4 w A L.length c1 losses left) wc → ∀ g13 R c, wc.heap[g13]? = some (.cells #[.slice R (Plain.leftF L ch lost).length c] 23 (0, 0)) → Sl wc .i64 R (Plain.leftF L ch lost) → ∀ w1, Ext wc w1 → ∀ F f, Sl w1 .i64 F (freeF L ch lost) →
      Calls Try.prog 70 #[.slice A L.length c1, .slice F (freeF L ch lost).length f, .func (.func 80) #[] #[.pointer (some ⟨g13, 0, none⟩), .pointer (some ⟨w.heap.size, 0, none⟩), .pointer (some ⟨w.heap.size + 1, 0, none⟩), .pointer (some ⟨w.heap.size + 1 + 1, 0, none⟩)]] w1
        fun e w' => ∃ v, e = .returned (.tuple #[v, .int .i64 (costF L ((restSt L ch lost losses left).getD [])), .bool (restSt L ch lost losses left).isSome]) ∧ LB w' w1.heap.size v ((restSt L ch lost losses left).getD []) ∧ Ext w1 w') := by
    intro hs hin wc xc g13 R c hb13 hsl w1 x1 F f hfl
    obtain ⟨hs1, hs2, hs3⟩ := leftFault_ok' hs
    have x0 := (HX0.out.trans xc).trans x1
    have h10 := sitesF_len hs1
    have hr10 : (Plain.leftF L ch lost).length ≤ 10 := by
      have := Plain.leftF_len L ch lost
      have := rising_len hs2
      omega
    exact cheapest80_c g13 w.heap.size (w.heap.size + 1) (w.heap.size + 1 + 1) A F L (freeF L ch lost) c1 f (togB L (Plain.leftF L ch lost) losses left) w1 (free_len hs1) (cost_ok hs1) (h1.ext x0) hfl (fun i hi => upTo_in i ((free_sub L ch lost).subset hi)) (fun w2 x2 R2 e2 more hmore _ hsl2 => by
      have x3 := x0.trans x2
      have hcl : more.length ≤ 10 := Nat.le_trans hmore.length_le (free_len hs1)
      exact restore2_c R2 R A L more (Plain.leftF L ch lost) e2 c c1 losses left _ _ _ _ w2 hL (by omega) (by omega) (h1.ext x3) (hg.ext x3) hsl2 (hsl.ext (x1.trans x2)) (worst_ok (tog_chosen hs hmore) hin) (blk_cell (ext_blk (x1.trans x2) hb13) 0) (((xc.trans x1).trans x2).cell (blk_cell HB0.out 0)) (((xc.trans x1).trans x2).cell (blk_cell HB1.out 0)) (((xc.trans x1).trans x2).cell (blk_cell HB2.out 0)))
  have HD : Hid (leftFault L ch lost = (0, 0) → ∀ wc, Ext (w4 w A L.length c1 losses left) wc → ∀ g13 R c, wc.heap[g13]? = some (.cells #[.slice R (Plain.leftF L ch lost).length c] 23 (0, 0)) → Sl wc .i64 R (Plain.leftF L ch lost) → ∀ w1, Ext wc w1 → ∀ v, w1.ownsRow wc.heap.size 3 1 v (Plain.leftF L (upTo L.length) lost).length ((Plain.leftF L (upTo L.length) lost).map (Value.int .i64)) →
      Calls Try.prog 77 #[v, .func (.func 78) #[] #[.pointer (some ⟨g13, 0, none⟩)]] w1 fun e w' => ∃ F f, e = .returned (.slice F (freeF L ch lost).length f) ∧ Sl w' .i64 F (freeF L ch lost) ∧ Ext wc w') := by
    intro hs wc xc g13 R c hb13 hsl w1 x1 v ho
    obtain ⟨hs1, hs2, hs3⟩ := leftFault_ok' hs
    have h10 := sitesF_len hs1
    have hr10 : (Plain.leftF L ch lost).length ≤ 10 := by
      have := Plain.leftF_len L ch lost
      have := rising_len hs2
      omega
    have hu10 : (Plain.leftF L (upTo L.length) lost).length ≤ 10 := by
      have := Plain.leftF_len L (upTo L.length) lost
      rw [upTo_len] at this
      omega
    refine (DeleteFunc_c w1 wc.heap.size v _ ho (by omega) g13 (hasB (Plain.leftF L ch lost)) (fun w' hb x => ?_)).mono ?_
    · have x2 : Ext wc w' := Below.trans x1 hb
      exact restore1_c x g13 R (Plain.leftF L ch lost) c w' (by unfold maxLen; omega) (hsl.ext x2) (blk_cell (ext_blk x2 hb13) 0)
    · rintro e w' ⟨v', rfl, ho', hb'⟩
      obtain ⟨F, f, rfl, _, _, _, hs'⟩ := own_sl ho'
      exact ⟨F, f, rfl, hs', Below.trans x1 hb'⟩
  have HLA := Lib.hid (fun (hs : leftFault L ch lost = (0, 0)) w1 (x : Ext w w1) R c (hsl : Sl w1 .i64 R (upTo L.length)) => Left_c A R D L (upTo L.length) lost c1 c c3 w1 hL (by rw [upTo_len]; have := sitesF_len (leftFault_ok' hs).1; unfold maxLen; omega) hd (h1.ext x) (hg.ext x) hsl (h3.ext x))
  have HLF := Lib.hid (fun (hs : leftFault L ch lost = (0, 0)) => leftFault_all hs)
  have HA := Lib.hid (fun w1 => fun (h : L.length ≤ 100000) => all_c A L.length c1 w1 h)
  have HLE10 := Lib.hid (fun (h : leftFault L ch lost = (0, 0)) => sitesF_len (leftFault_ok' h).1)
  have HUL := Lib.hid (upTo_len L.length)
  have HRE := Lib.hid (fun w1 v b h => result_end v L (restSt L ch lost losses left) b w1 h)
  unfold w4 at *
  generalize costF L ((restSt L ch lost losses left).getD []) = PN at *
  generalize restSt L ch lost losses left = ST at *
  generalize leftFault L (upTo L.length) lost = SU at *
  generalize leftFault L ch lost = SF at *
  generalize Plain.leftF L (upTo L.length) lost = UF at *
  generalize Plain.leftF L ch lost = RF at *
  generalize freeF L ch lost = FF at *
  generalize upTo L.length = UT at *
  obtain ⟨f1, f2⟩ := SF
  obtain ⟨RL, hRL⟩ : ∃ RL, RL = (if (f1, f2) = (0, 0) then RF else []) := ⟨_, rfl⟩
  rw [← hRL] at HLE
  have HRL := Lib.hid hRL
  clear h1 hg h2 h3 hb0 hb1 hb2 hb3 hRL
  obtain ⟨P, hP⟩ : ∃ P : List Int × Int × (Int × Int), P = (if (if (f1, f2) = (0, 0) then limitsF losses left (-4) else (f1, f2)) = (0, 0) then (ST.getD [], PN, foundF ST) else ([], 0, if (f1, f2) = (0, 0) then limitsF losses left (-4) else (f1, f2))) := ⟨_, rfl⟩
  rw [← hP]
  obtain ⟨P1, P2, P3, P4⟩ := P
  have HP := Lib.hid hP
  clear hP
  go_enter Try.func43, Try.ntmps43
  go_upto_region 1 with (fail)
  go_cut [13, 14] (fun s13 s14 wx => ∃ g13 g14 R c, s13 = .pointer (some ⟨g13, 0, none⟩) ∧ s14 = .pointer (some ⟨g14, 0, none⟩) ∧ wx.heap[g13]? = some (.cells #[.slice R RL.length c] 23 (0, 0)) ∧ Sl wx .i64 R RL ∧ FBlk wx g14 (f1, f2) ∧ Ext ((((w.alloc (.cells #[.slice A L.length c1] 22)).alloc (.cells #[.int .i64 losses] 3)).alloc (.cells #[.int .i64 left] 3)).alloc (.cells #[.int .i64 0, .int .i64 0] 25)) wx)
  case first =>
    go_wp2_with (go_at_call 14; refine HLE.out.mono ?_; rintro e w3 ⟨v3, rfl, ho3, hx3⟩; obtain ⟨R3, d3, rfl, l3⟩ := own_lv ho3; have HL := Lib.hid l3; have HX3 := Lib.hid hx3; clear ho3 hx3 l3)
    go_meet
    exact ⟨_, _, R3, d3, rfl, rfl, ext_blk ((Ext.refl _).alloc _) (new_blk _ _), HL.out.ext (((Ext.refl _).alloc _).alloc _), fblk_new1 _ _ _ _, (HX3.out.alloc _).alloc _⟩
  case rest =>
    obtain ⟨g13, g14, R, c, rfl, rfl, hb13, hsl, hb14, hx⟩ := hcut
    have hb := HB3.out.ext hx
    have m0 : wc.cell? ⟨w.heap.size, 0, none⟩ = some (.slice A L.length c1) := blk_cell (ext_blk hx HB0.out) 0
    have m1 : wc.cell? ⟨w.heap.size + 1, 0, none⟩ = some (.int .i64 losses) := blk_cell (ext_blk hx HB1.out) 0
    have m2 : wc.cell? ⟨w.heap.size + 1 + 1, 0, none⟩ = some (.int .i64 left) := blk_cell (ext_blk hx HB2.out) 0
    have hlt3 : (w.heap.size + 1 + 1 + 1) < wc.heap.size := blk_lt hb
    have hlt2 : w.heap.size + 1 + 1 < wc.heap.size := Nat.lt_of_succ_lt hlt3
    have hlt1 : w.heap.size + 1 < wc.heap.size := Nat.lt_of_succ_lt hlt2
    have hlt0 : w.heap.size < wc.heap.size := Nat.lt_of_succ_lt hlt1
    have hlt14 : g14 < wc.heap.size := blk_lt hb14
    have z0 := hb.c0
    have z1 := hb.c1
    have y0 := hb.z 0
    have y1 := hb.z 1
    have x0 := hb14.c0
    have x1 := hb14.c1
    have HB := Lib.hid hb
    have HXV := Lib.hid hx
    have HX := Lib.hid (HX0.out.trans hx)
    have HSL := Lib.hid hsl
    have HB13 := Lib.hid hb13
    have HB14 := Lib.hid hb14
    clear hb hx hsl hb13 hb14 HLE HB0 HB1 HB2 HB3
    simp only at x0 x1 z0 z1
    by_cases g1 : f1 = 0
    · have hz := HSC.out g1
      have hl10 := HLE10.out hz
      rw [if_pos hz] at HP HRL
      have HH2 := Lib.hid (HH.out hz)
      have HD2 := Lib.hid (HD.out hz)
      have HLA2 := Lib.hid (HLA.out hz)
      have HLF2 := Lib.hid (HLF.out hz)
      injection hz with q1 q2
      subst q1
      subst q2
      obtain rfl := HRL.out
      rw [HLF2.out] at HLA2
      clear g1 HSC HLE10 HH HD HLA HLF HLF2 HRL
      unfold limitsF at HP
      cases e1 : inB losses 0 12 with
      | false =>
        rw [e1, if_pos (show (false = false) from rfl), if_neg (show ¬ (((4 : Int), (-4 : Int)) = (0, 0)) by decide)] at HP
        have hP := HP.out
        injection hP with p1 p2
        injection p2 with p2 p3
        injection p3 with p3 p4
        subst p1 p2 p3 p4
        clear HP
        go_wp2_with (first | (go_at_call 64; refine (validLosses_c _ _).mono ?_; rintro e w' ⟨rfl, rfl⟩; rw [e1]) | (go_at_call 65; refine (cfault_c _ _ _).mono ?_; rintro e w' ⟨rfl, rfl⟩))
        refine bodyPost_ret (v := .tuple #[.slice none 0 0, .int .i64 0, .agg #[.int .i64 4, .int .i64 (-4)]]) (w_res Try.results43 _ _ (w.heap.size + 1 + 1 + 1) (_, _) _ _ rfl rfl rfl ?_) rfl ⟨_, rfl, ⟨none, 0, rfl, SlC.nil _ _⟩, ?_⟩
        · exact (HB.out.set _ _).alloc _
        · exact (HX.out.set2at (by omega) _ _).alloc _
      | true =>
        rw [e1, if_neg (show ¬ (true = false) by simp)] at HP
        cases e2 : inB left 0 10 with
        | false =>
          rw [e2, if_pos (show (false = false) from rfl), if_neg (show ¬ (((4 : Int), ((-4 : Int) - 1)) = (0, 0)) by decide)] at HP
          have hP := HP.out
          injection hP with p1 p2
          injection p2 with p2 p3
          injection p3 with p3 p4
          subst p1 p2 p3 p4
          clear HP
          go_wp2_with (first | (go_at_call 64; refine (validLosses_c _ _).mono ?_; rintro e w' ⟨rfl, rfl⟩; rw [e1]) | (go_at_call 66; refine (validLeft_c _ _).mono ?_; rintro e w' ⟨rfl, rfl⟩; rw [e2]) | (go_at_call 65; refine (cfault_c _ _ _).mono ?_; rintro e w' ⟨rfl, rfl⟩))
          refine bodyPost_ret (v := .tuple #[.slice none 0 0, .int .i64 0, .agg #[.int .i64 4, .int .i64 (-5)]]) (w_res Try.results43 _ _ (w.heap.size + 1 + 1 + 1) (_, _) _ _ rfl rfl rfl ?_) rfl ⟨_, rfl, ⟨none, 0, rfl, SlC.nil _ _⟩, ?_⟩
          · exact (HB.out.set _ _).alloc _
          · exact (HX.out.set2at (by omega) _ _).alloc _
        | true =>
          rw [e2, if_neg (show ¬ (true = false) by simp), if_pos (show (((0 : Int), (0 : Int)) = (0, 0)) from rfl)] at HP
          obtain ⟨p1, p2, p34⟩ : P1 = ST.getD [] ∧ P2 = PN ∧ (P3, P4) = foundF ST := by have := HP.out; injection this with a b; injection b with b c; exact ⟨a, b, c⟩
          subst p1 p2
          have HP34 := Lib.hid p34
          clear HP p34
          have HH3 := Lib.hid (HH2.out e1 _ HXV.out g13 R c HB13.out HSL.out)
          have HD3 := Lib.hid (HD2.out _ HXV.out g13 R c HB13.out HSL.out)
          have HA2 := Lib.hid (fun w1 => HA.out w1 (by omega))
          clear HA HH2 HD2
          obtain ⟨wa, rfl⟩ : ∃ x, x = wc := ⟨_, rfl⟩
          go_upto_region 8 with (first | (go_at_call 64; refine (validLosses_c _ _).mono ?_; rintro e w' ⟨rfl, rfl⟩; rw [e1]) | (go_at_call 66; refine (validLeft_c _ _).mono ?_; rintro e w' ⟨rfl, rfl⟩; rw [e2]))
          go_cut [15] (fun s15 wx => wx.ownsRow wa.heap.size 3 1 s15 UF.length (UF.map (Value.int .i64)) ∧ Ext wa wx)
          case first =>
            go_region_held3 (fun w' => w'.cell? ⟨w.heap.size, 0, none⟩ = some (.slice A L.length c1)) ((first | go_keep | exact keep_set2 (by assumption) (by omega))) ((first | (go_at_call 71; refine (HA2.out _).mono ?_; rintro e w5 ⟨v5, rfl, ho5, hx5⟩; have hx5a : Ext (wa.alloc (.cells #[.int .i64 0, .int .i64 0] 25)) w5 := (Ext.refl _).drew.trans hx5; have hx5' : Ext wa w5 := ((Ext.refl wa).alloc _).trans hx5a; have b5 : FBlk w5 wa.heap.size (0, 0) := ext_blk hx5a (new_blk _ _); have hl5 : wa.heap.size < w5.heap.size := blk_lt b5; have HB5 := Lib.hid b5; clear hx5a b5; obtain ⟨R5, d5, hs5, l5⟩ := own_lv ho5; subst hs5; have m3 := hx5'.cell m0; have hs5 : w.heap.size < w5.heap.size := Nat.lt_of_lt_of_le hlt0 hx5'.size; have HX5 := Lib.hid hx5'; have HC5 := Lib.hid (fun w' (x : Ext w5 w') => HLA2.out w' ((HX.out.trans hx5').trans x) R5 d5 (l5.ext x)); clear ho5 hx5 hx5' l5) | (go_at_call 71; refine (HA2.out _).mono ?_; rintro e w5 ⟨v5, rfl, ho5, hx5⟩; have hx5' : Ext wa w5 := (Ext.refl wa).drew.trans hx5; obtain ⟨R5, d5, hs5, l5⟩ := own_lv ho5; subst hs5; have m3 := hx5'.cell m0; have hs5 : w.heap.size < w5.heap.size := Nat.lt_of_lt_of_le hlt0 hx5'.size; have HX5 := Lib.hid hx5'; have HC5 := Lib.hid (fun w' (x : Ext w5 w') => HLA2.out w' ((HX.out.trans hx5').trans x) R5 d5 (l5.ext x)); clear ho5 hx5 hx5' l5) | (go_at_call 14; refine (HC5.out w5 (Ext.refl w5)).mono ?_; rintro e w6 ⟨v6, rfl, ho6, hx6⟩; have hx6' : Ext wa w6 := HX5.out.trans hx6; have b6 : FBlk w6 wa.heap.size (0, 0) := HB5.out.ext hx6; have HO6 := Lib.hid ho6; have hg6 : wa.heap.size < w6.heap.size := blk_lt b6; have m4 := hx6'.cell m0; have c60 := b6.c0; have c61 := b6.c1; have f60 := b6.z 0; have f61 := b6.z 1; have HX6 := Lib.hid hx6'; clear hx6 hx6' ho6 b6) | (go_at_call 14; refine (HC5.out _ ((Ext.refl w5).alloc _)).mono ?_; rintro e w6 ⟨v6, rfl, ho6, hx6⟩; have hx6' : Ext wa w6 := (HX5.out.alloc _).trans hx6; have b6 : FBlk w6 w5.heap.size (0, 0) := ext_blk hx6 (new_blk _ _); have HO6 := Lib.hid ho6; have hg6 : w5.heap.size < w6.heap.size := blk_lt b6; have m4 := hx6'.cell m0; have c60 := b6.c0; have c61 := b6.c1; have f60 := b6.z 0; have f61 := b6.z 1; have HX6 := Lib.hid hx6'; clear hx6 hx6' ho6 b6) | (go_at_call 14; refine (HC5.out w5 (Ext.refl w5)).mono ?_; rintro e w6 ⟨v6, rfl, ho6, hx6⟩; have hx6' : Ext wa w6 := HX5.out.trans hx6; have HO6 := Lib.hid ho6; have m4 := hx6'.cell m0; have HX6 := Lib.hid hx6'; clear hx6 hx6' ho6)))
            all_goals go_wp2
            all_goals go_meet
            all_goals first
              | exact ⟨own_mono (own_ext HO6.out ((Ext.refl _).alloc _)) HX5.out.size, HX6.out.alloc _⟩
              | exact ⟨own_mono (own_set (own_set HO6.out hl5 _ _) hl5 _ _) HX5.out.size, HX6.out.set2at (Nat.le_refl _) _ _⟩
              | exact ⟨own_mono (own_set (own_set HO6.out (by rw [alloc_size]; omega) _ _) (by rw [alloc_size]; omega) _ _) (HX5.out.alloc _).size, HX6.out.set2at HX5.out.size _ _⟩
              | trace_state
          case rest =>
            obtain ⟨ho15, hx15⟩ := hcut
            have HD4 := Lib.hid (HD3.out _ hx15 _ ho15)
            clear ho15 hx15 HD3 HA2 HLA2
            go_wp2_with (first
              | (go_at_call 77; refine HD4.out.mono ?_; rintro e w7 ⟨F7, d7, rfl, hs7, hx7⟩; have m7 := hx7.cell m0; have hg7 : (w.heap.size + 1 + 1 + 1) < w7.heap.size := Nat.lt_of_lt_of_le hlt3 hx7.size; have HX7 := Lib.hid hx7; have HC7 := Lib.hid (HH3.out _ hx7 F7 d7 hs7); clear hs7 hx7)
              | (go_at_call 70; refine HC7.out.mono ?_; rintro e w8 ⟨v8, rfl, hl8, hx8⟩; have HX8 := Lib.hid (HX7.out.trans hx8); have HR8 := Lib.hid (HRE.out _ _ _ hl8); clear hx8 hl8)
              | (go_at_call 69; refine HR8.out.mono ?_; rintro e w9 ⟨v9, rfl, hl9, hx9⟩; have hx9' := HX8.out.trans hx9; have hb9 := HB.out.ext hx9'; have hlt9 : (w.heap.size + 1 + 1 + 1) < w9.heap.size := blk_lt hb9; have z0' := hb9.c0; have z1' := hb9.c1; have y0' := hb9.z 0; have y1' := hb9.z 1; have HB9 := Lib.hid hb9; have HX9 := Lib.hid (HX.out.trans hx9'); have HL9 := Lib.hid hl9; clear hx9 hx9' hb9 hl9))
            refine bodyPost_ret (v := .tuple #[v9, .int .i64 P2, .agg #[.int .i64 (foundF ST).1, .int .i64 (foundF ST).2]]) (w_res Try.results43 _ _ (w.heap.size + 1 + 1 + 1) (_, _) _ _ rfl rfl rfl ?_) rfl ⟨v9, ?_, ?_, ?_⟩
            · exact HB9.out.set _ _
            · rw [← HP34.out]
            · exact HL9.out.set2 hg7 _ _
            · exact HX9.out.set2at (by omega) _ _
    · have hne : ¬ (f1, f2) = (0, 0) := by intro h; apply g1; injection h
      rw [if_neg hne, if_neg hne] at HP
      have hP := HP.out
      injection hP with p1 p2
      injection p2 with p2 p3
      injection p3 with p3 p4
      subst p1 p2 p3 p4
      clear HP
      have g1' : (P3 == 0) = false := by simpa using g1
      go_upto_region 3 with (fail)
      go_region
      all_goals go_wp2
      all_goals refine bodyPost_ret (v := .tuple #[.slice none 0 0, .int .i64 0, .agg #[.int .i64 P3, .int .i64 P4]]) (w_res Try.results43 _ _ (w.heap.size + 1 + 1 + 1) (_, _) _ _ rfl rfl rfl ?_) rfl ⟨_, rfl, ⟨none, 0, rfl, SlC.nil _ _⟩, ?_⟩
      all_goals first | exact (HB.out.set _ _).drew | exact (HX.out.set2at (by omega) _ _).drew
end Go.Proofs.Ytbhcaniopdgjkaa
