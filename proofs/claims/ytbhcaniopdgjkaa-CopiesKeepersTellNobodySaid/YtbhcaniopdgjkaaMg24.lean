import Derived.Test.YtbhcaniopdgjkaaMg23
namespace Go.Proofs.Ytbhcaniopdgjkaa
open Go Go.Proofs Go.RowKit
open Plain (SiteD)
set_option maxHeartbeats 1000000
set_option maxRecDepth 100000
theorem meets_comm (a b : List Int) : meetsB a b = meetsB b a := by
  rw [Bool.eq_iff_iff]
  unfold meetsB hasB
  simp only [List.any_eq_true, List.contains_iff_mem]
  constructor
  · rintro ⟨x, h1, h2⟩; exact ⟨x, h2, h1⟩
  · rintro ⟨x, h1, h2⟩; exact ⟨x, h2, h1⟩
theorem partsN_C (L : List SiteD) : partsN L = Plain.partsC (adjF L) L.length := Plain.parts_prog (adjF L) L.length (fun _ _ => meets_comm _ _) sortN sortN_law
theorem pl_sites : Plain.sitesF plL = (0, 0) := by decide
theorem pl_left : leftFault plL [0, 1, 2] [2] = (0, 0) ∧ Plain.leftF plL [0, 1, 2] [2] = [0, 2] := by decide
theorem pl_worst : worstFault plL [0, 1, 2] 1 = (0, 0) ∧ worstR plL [0, 1, 2] 1 = ([1], 1) := by decide
theorem pl_zones : Plain.zonesF plL = [1, 2, 3] := by decide
theorem pl_parts : intsL (partsN plL) = [[0, 1], [2]] := by rw [partsN_C]; decide
theorem pl_life : lifeFault plL 1 0 9 = (0, 0) ∧ lifeR plL 1 0 9 = 4 := by decide
/-- A list in a variable. -/
def LV (w : World) (s : Value) (l : List Int) : Prop := ∃ R c, s = .slice R l.length c ∧ Sl w .i64 R l
theorem LV.ext {w w' : World} {s : Value} {l : List Int} (h : LV w s l) (e : Ext w w') : LV w' s l := by
  obtain ⟨R, c, h1, h2⟩ := h; exact ⟨R, c, h1, h2.ext e⟩
def FV (w : World) (s : Value) (f : Int × Int) : Prop := ∃ g, s = .pointer (some ⟨g, 0, none⟩) ∧ FBlk w g f
theorem FV.ext {w w' : World} {s : Value} {f : Int × Int} (h : FV w s f) (e : Ext w w') : FV w' s f := by
  obtain ⟨g, h1, h2⟩ := h; exact ⟨g, h1, h2.ext e⟩
theorem own_lv {w : World} {base : Nat} {v : Value} {l : List Int} (h : w.ownsRow base 3 1 v l.length (l.map (Value.int .i64))) : LV w v l := by
  obtain ⟨A, c, h1, _, _, _, h2⟩ := own_sl h
  exact ⟨A, c, h1, h2⟩
/-- Lists of lists in a variable. -/
def PV (w : World) (s : Value) (P : List (List Int)) : Prop := ∃ R c, s = .slice R P.length c ∧ ∀ (j : Nat) (g : List Int), P[j]? = some g → ∃ b o, R = some ⟨b, o, none⟩ ∧ ∃ G d, w.cell? ⟨b, o + j, none⟩ = some (.slice G g.length d) ∧ Sl w .i64 G g ∧ g.length ≤ d ∧ d ≤ maxLen
theorem PV.ext {w w' : World} {s : Value} {P : List (List Int)} (h : PV w s P) (e : Ext w w') : PV w' s P := by
  obtain ⟨R, c, h1, h2⟩ := h
  refine ⟨R, c, h1, fun j g hg => ?_⟩
  obtain ⟨b, o, h3, G, d, h4, h5, h6⟩ := h2 j g hg
  exact ⟨b, o, h3, G, d, e.cell h4, h5.ext e, h6⟩
theorem own_pv {w : World} {base : Nat} {v : Value} {P : List (List Int)} {vs : List Value} (h : w.ownsRow base 23 1 v P.length vs)
    (hr : ∀ (j : Nat) (g : List Int), P[j]? = some g → ∃ (blk c : Nat), vs[j]? = some (.slice (some ⟨blk, 0, none⟩) g.length c) ∧ g.length ≤ c ∧ c ≤ maxLen ∧ Sl w .i64 (some ⟨blk, 0, none⟩) g) : PV w v P := by
  rcases h.2 with ⟨rfl, h0⟩ | ⟨g, cap, cur, rfl, hb, hg, hn, hm, hs, ht⟩
  · have : P = [] := List.eq_nil_of_length_eq_zero h0
    subst this
    exact ⟨none, 0, rfl, fun j g hg => by simp at hg⟩
  · refine ⟨some ⟨g, 0, none⟩, cap, rfl, fun j r hj => ?_⟩
    obtain ⟨blk, c, r1, r2, r3, r4⟩ := hr j r hj
    refine ⟨g, 0, rfl, some ⟨blk, 0, none⟩, c, ?_, r4, r2, r3⟩
    rw [Nat.zero_add, blk_cell hg]
    have hlt : j < P.length := (List.getElem?_eq_some_iff.1 hj).1
    rw [Nat.mul_one] at ht
    have : (cur.toList.take P.length)[j]? = vs[j]? := by rw [ht]
    rw [List.getElem?_take, if_pos hlt, r1] at this
    simpa using this
section
variable (b : Nat) (w : World) (hs : Sites w (some ⟨b, 0, none⟩) plL) (hg : Glob w)
include hs hg
theorem left_pl (R D : Option Addr) (h1 : Sl w .i64 R [0, 1, 2]) (h2 : Sl w .i64 D [2]) : Calls Try.prog 14 #[.slice (some ⟨b, 0, none⟩) 3 3, .slice R 3 3, .slice D 1 1] w (LFRet w [0, 2] (0, 0)) := by
  have := Left_c (some ⟨b, 0, none⟩) R D plL [0, 1, 2] [2] 3 3 1 w (by decide) (by decide) (by decide) hs hg h1 h2
  rw [pl_left.1, pl_left.2, if_pos rfl] at this
  exact this
theorem worst_pl (R : Option Addr) (h1 : Sl w .i64 R [0, 1, 2]) : Calls Try.prog 27 #[.slice (some ⟨b, 0, none⟩) 3 3, .slice R 3 3, .int .i64 1] w (WRet w [1] 1 (0, 0)) := by
  have := Worst_c (some ⟨b, 0, none⟩) R plL [0, 1, 2] 3 3 1 w (by decide) (by decide) hs hg h1
  rw [pl_worst.1, pl_worst.2] at this
  exact this
theorem zones_pl : Calls Try.prog 15 #[.slice (some ⟨b, 0, none⟩) 3 3] w (LFRet w [1, 2, 3] (0, 0)) := by
  have := Zones_c (some ⟨b, 0, none⟩) plL 3 w (by decide) hs hg
  rw [pl_sites, if_pos rfl, pl_zones] at this
  exact this
theorem parts_pl : Calls Try.prog 16 #[.slice (some ⟨b, 0, none⟩) 3 3] w (PRet w [[0, 1], [2]] (0, 0)) := by
  have := Parts_c (some ⟨b, 0, none⟩) plL 3 w (by decide) hs hg
  rw [pl_sites, if_pos rfl, pl_parts] at this
  exact this
theorem life_pl : Calls Try.prog 28 #[.slice (some ⟨b, 0, none⟩) 3 3, .int .i64 1, .agg #[.int .i64 0, .int .i64 9]] w (IRet w 4 (0, 0)) := by
  have := Life_c (some ⟨b, 0, none⟩) plL 3 1 0 9 w (by decide) (by decide) hs hg
  rw [pl_life.1, pl_life.2] at this
  exact this
theorem valid_pl : Calls Try.prog 22 #[.slice (some ⟨b, 0, none⟩) 3 3] w (FRet w (0, 0)) := by
  have := Validate_c (some ⟨b, 0, none⟩) plL 3 w (by decide) hs hg
  rw [pl_sites] at this
  exact this
end
end Go.Proofs.Ytbhcaniopdgjkaa
namespace Go.Proofs.Ytbhcaniopdgjkaa
open Go Go.Proofs Go.RowKit
open Plain (SiteD)
set_option maxHeartbeats 1000000
set_option maxRecDepth 100000
theorem new_sl1 (w : World) (l : List Int) (n : Nat) (hn : n = w.heap.size) : Sl (w.alloc (.cells (l.map (Value.int .i64)).toArray 3)) .i64 (some ⟨n, 0, none⟩) l := by
  subst hn
  exact sl_blk (new_blk _ _)
theorem new_fv (w : World) (a b : Int) : FV (w.alloc (.cells #[.int .i64 a, .int .i64 b] 25)) (.pointer (some ⟨w.heap.size, 0, none⟩)) (a, b) := ⟨_, rfl, FBlk.new w a b⟩
theorem ints_same (A B : Option Addr) (l : List Int) (n c d : Nat) (w : World) (hn : n = l.length) (hl : l.length ≤ maxLen) (h1 : Sl w .i64 A l) (h2 : Sl w .i64 B l) : Calls Try.prog 24 #[.slice A n c, .slice B n d] w (BRet w true) := by
  subst hn
  refine (Ints_c A B l l c d w hl hl h1 h2).mono ?_
  rintro e w' ⟨rfl, n, rfl⟩
  exact ⟨by simp, (Ext.refl w).drewN n⟩
theorem field_code (a b : Int) (w : World) : (Instr.field 25 (.agg #[.int .i64 a, .int .i64 b]) 0).run Try.prog w = .ok (.int .i64 a) w := by kernel_rfl
theorem placed_c (w : World) (hg : Glob w) : Calls Try.prog 21 #[] w (BRet w true) := by
  have HGL := Lib.hid hg
  have HXC := Lib.hid (Ext.refl w)
  clear hg
  go_enter Try.func21, Try.ntmps21
  go_upto_region 1 with (fail)
  go_cut [1, 2] (fun s1 s2 wx => LV wx s1 [0, 2] ∧ FV wx s2 (0, 0) ∧ Ext w wx)
  case first =>
    go_wp2_with (first | (go_at_call 54; refine (places_c _).mono ?_; rintro e wp ⟨b, rfl, hs, hx⟩; have HS := Lib.hid hs; have HX := Lib.hid (HXC.out.trans hx); have HXP := Lib.hid hx; clear hs hx) | (go_at_call 14; refine (left_pl b _ (HS.out.ext (((Ext.refl _).alloc _).alloc _)) (HGL.out.ext ((HX.out.alloc _).alloc _)) _ _ ((new_sl1 wp [0, 1, 2] _ rfl).ext ((Ext.refl _).alloc _)) (new_sl1 _ [2] _ (by simp))).mono ?_; rintro e w3 ⟨v3, rfl, ho3, hx3⟩; have HL := Lib.hid (own_lv ho3); have HX3 := Lib.hid (((HX.out.alloc _).alloc _).trans hx3); clear ho3 hx3))
    go_meet
    exact ⟨HL.out.ext ((Ext.refl _).alloc _), new_fv _ _ _, HX3.out.alloc _⟩
  case rest =>
    clear HXC
    obtain ⟨hl1, hf2, hxc⟩ := hcut
    have HL1 := Lib.hid hl1
    have HF2 := Lib.hid hf2
    have HXC := Lib.hid hxc
    clear hl1 hf2 hxc
    go_upto_region 2 with (fail)
    go_cut [3, 4, 5] (fun s3 s4 s5 wx => LV wx s3 [1] ∧ s4 = .int .i64 1 ∧ FV wx s5 (0, 0) ∧ Ext wc wx)
    case first =>
      go_wp2_with (first | (go_at_call 54; refine (places_c _).mono ?_; rintro e wp ⟨b, rfl, hs, hx⟩; have HS := Lib.hid hs; have HX := Lib.hid (HXC.out.trans hx); have HXP := Lib.hid hx; clear hs hx) | (go_at_call 27; refine (worst_pl b _ (HS.out.ext ((Ext.refl _).alloc _)) (HGL.out.ext (HX.out.alloc _)) _ (new_sl1 wp [0, 1, 2] _ rfl)).mono ?_; rintro e w3 ⟨v3, rfl, ho3, hx3⟩; have HL := Lib.hid (own_lv ho3); have HX3 := Lib.hid ((HXP.out.alloc _).trans hx3); clear ho3 hx3))
      go_meet
      exact ⟨HL.out.ext ((Ext.refl _).alloc _), rfl, new_fv _ _ _, HX3.out.alloc _⟩
    case rest =>
      obtain ⟨hl3, rfl, hf5, hx2⟩ := hcut
      have HL3 := Lib.hid hl3
      have HF5 := Lib.hid hf5
      have HL1 := Lib.hid (HL1.out.ext hx2)
      have HF2 := Lib.hid (HF2.out.ext hx2)
      have HXC := Lib.hid (HXC.out.trans hx2)
      clear hl3 hf5 hx2
      go_upto_region 3 with (fail)
      go_cut [6, 7] (fun s6 s7 wx => LV wx s6 [1, 2, 3] ∧ FV wx s7 (0, 0) ∧ Ext wc wx)
      case first =>
        go_wp2_with (first | (go_at_call 54; refine (places_c _).mono ?_; rintro e wp ⟨b, rfl, hs, hx⟩; have HS := Lib.hid hs; have HX := Lib.hid (HXC.out.trans hx); have HXP := Lib.hid hx; clear hs hx) | (go_at_call 15; refine (zones_pl b _ HS.out (HGL.out.ext HX.out)).mono ?_; rintro e w3 ⟨v3, rfl, ho3, hx3⟩; have HL := Lib.hid (own_lv ho3); have HX3 := Lib.hid (HXP.out.trans hx3); clear ho3 hx3))
        go_meet
        exact ⟨HL.out.ext ((Ext.refl _).alloc _), new_fv _ _ _, HX3.out.alloc _⟩
      case rest =>
        obtain ⟨hl6, hf7, hx2⟩ := hcut
        have HL6 := Lib.hid hl6
        have HF7 := Lib.hid hf7
        have HL1 := Lib.hid (HL1.out.ext hx2)
        have HF2 := Lib.hid (HF2.out.ext hx2)
        have HL3 := Lib.hid (HL3.out.ext hx2)
        have HF5 := Lib.hid (HF5.out.ext hx2)
        have HXC := Lib.hid (HXC.out.trans hx2)
        clear hl6 hf7 hx2
        go_upto_region 4 with (fail)
        go_cut [8, 9] (fun s8 s9 wx => PV wx s8 [[0, 1], [2]] ∧ FV wx s9 (0, 0) ∧ Ext wc wx)
        case first =>
          go_wp2_with (first | (go_at_call 54; refine (places_c _).mono ?_; rintro e wp ⟨b, rfl, hs, hx⟩; have HS := Lib.hid hs; have HX := Lib.hid (HXC.out.trans hx); have HXP := Lib.hid hx; clear hs hx) | (go_at_call 16; refine (parts_pl b _ HS.out (HGL.out.ext HX.out)).mono ?_; rintro e w3 ⟨v3, vs3, rfl, ho3, hr3, hx3⟩; have HL := Lib.hid (own_pv ho3 hr3); have HX3 := Lib.hid (HXP.out.trans hx3); clear ho3 hx3 hr3))
          go_meet
          exact ⟨HL.out.ext ((Ext.refl _).alloc _), new_fv _ _ _, HX3.out.alloc _⟩
        case rest =>
          obtain ⟨hl8, hf9, hx2⟩ := hcut
          have HL8 := Lib.hid hl8
          have HF9 := Lib.hid hf9
          have HL1 := Lib.hid (HL1.out.ext hx2)
          have HF2 := Lib.hid (HF2.out.ext hx2)
          have HL3 := Lib.hid (HL3.out.ext hx2)
          have HF5 := Lib.hid (HF5.out.ext hx2)
          have HL6 := Lib.hid (HL6.out.ext hx2)
          have HF7 := Lib.hid (HF7.out.ext hx2)
          have HXC := Lib.hid (HXC.out.trans hx2)
          clear hl8 hf9 hx2
          go_upto_region 5 with (fail)
          go_cut [10, 11] (fun s10 s11 wx => s10 = .int .i64 4 ∧ FV wx s11 (0, 0) ∧ Ext wc wx)
          case first =>
            go_wp2_with (first | (go_at_call 54; refine (places_c _).mono ?_; rintro e wp ⟨b, rfl, hs, hx⟩; have HS := Lib.hid hs; have HX := Lib.hid (HXC.out.trans hx); have HXP := Lib.hid hx; clear hs hx) | (go_at_call 28; refine (life_pl b _ HS.out (HGL.out.ext HX.out)).mono ?_; rintro e w3 ⟨rfl, hx3⟩; have HX3 := Lib.hid (HXP.out.trans hx3); clear hx3))
            go_meet
            exact ⟨rfl, new_fv _ _ _, HX3.out.alloc _⟩
          case rest =>
            obtain ⟨rfl, hf11, hx2⟩ := hcut
            have HF2 := HF2.out.ext hx2
            have HF5 := HF5.out.ext hx2
            have HF7 := HF7.out.ext hx2
            have HF9 := HF9.out.ext hx2
            have HL1 := HL1.out.ext hx2
            have HL3 := HL3.out.ext hx2
            have HL6 := HL6.out.ext hx2
            have HL8 := HL8.out.ext hx2
            have HXC := Lib.hid (HXC.out.trans hx2)
            obtain ⟨g2, rfl, f2⟩ := HF2
            obtain ⟨g5, rfl, f5⟩ := HF5
            obtain ⟨g7, rfl, f7⟩ := HF7
            obtain ⟨g9, rfl, f9⟩ := HF9
            obtain ⟨g11, rfl, f11⟩ := hf11
            obtain ⟨R1, d1, rfl, l1⟩ := HL1
            obtain ⟨R3, d3, rfl, l3⟩ := HL3
            obtain ⟨R6, d6, rfl, l6⟩ := HL6
            obtain ⟨R8, d8, rfl, l8⟩ := HL8
            obtain ⟨b8, o8, rfl, G0, e0, p0, q0, _, _⟩ := l8 0 [0, 1] rfl
            obtain ⟨_, _, hbo, G1, e1, p1, q1, _, _⟩ := l8 1 [2] rfl
            cases hbo
            have p0 : wc.cell? ⟨b8, o8, none⟩ = some (.slice G0 2 e0) := p0
            have p1 : wc.cell? ⟨b8, o8 + 1, none⟩ = some (.slice G1 1 e1) := p1
            have z2 := f2.c0
            have z5 := f5.c0
            have z7 := f7.c0
            have z9 := f9.c0
            have z11 := f11.c0
            clear f2 f5 f7 f9 f11 hx2 l8
            have hfd := field_code 0 0
            go_wp2_with (first
              | (go_at_call_of 24 (Value.slice R1 2 d1); refine (ints_same _ _ [0, 2] 2 _ _ _ rfl (by decide) (l1.ext ((Ext.refl _).alloc _)) (new_sl1 wc [0, 2] _ rfl)).mono ?_; rintro e wa ⟨rfl, hx⟩; have X1 := Lib.hid ((Ext.refl wc).alloc (.cells (([0, 2] : List Int).map (Value.int .i64)).toArray 3) |>.trans hx);  clear hx)
              | (go_at_call_of 24 (Value.slice R3 1 d3); refine (ints_same _ _ [1] 1 _ _ _ rfl (by decide) ((l3.ext X1.out).ext ((Ext.refl _).alloc _)) (new_sl1 wa [1] _ rfl)).mono ?_; rintro e wb ⟨rfl, hx⟩; have X2 := Lib.hid ((Ext.refl wa).alloc (.cells (([1] : List Int).map (Value.int .i64)).toArray 3) |>.trans hx);  clear hx)
              | (go_at_call_of 24 (Value.slice R6 3 d6); refine (ints_same _ _ [1, 2, 3] 3 _ _ _ rfl (by decide) (((l6.ext X1.out).ext X2.out).ext ((Ext.refl _).alloc _)) (new_sl1 wb [1, 2, 3] _ rfl)).mono ?_; rintro e wd ⟨rfl, hx⟩; have X3 := Lib.hid ((Ext.refl wb).alloc (.cells (([1, 2, 3] : List Int).map (Value.int .i64)).toArray 3) |>.trans hx); have p0 := ((X1.out.trans X2.out).trans X3.out).cell p0; have p1 := ((X1.out.trans X2.out).trans X3.out).cell p1; clear hx)
              | (go_at_call_of 24 (Value.slice G0 2 e0); refine (ints_same _ _ [0, 1] 2 _ _ _ rfl (by decide) ((((q0.ext X1.out).ext X2.out).ext X3.out).ext ((Ext.refl _).alloc _)) (new_sl1 wd [0, 1] _ rfl)).mono ?_; rintro e we ⟨rfl, hx⟩; have X4 := Lib.hid ((Ext.refl wd).alloc (.cells (([0, 1] : List Int).map (Value.int .i64)).toArray 3) |>.trans hx); have p1 := X4.out.cell p1; clear hx)
              | (go_at_call_of 24 (Value.slice G1 1 e1); refine (ints_same _ _ [2] 1 _ _ _ rfl (by decide) (((((q1.ext X1.out).ext X2.out).ext X3.out).ext X4.out).ext ((Ext.refl _).alloc _)) (new_sl1 we [2] _ rfl)).mono ?_; rintro e wf ⟨rfl, hx⟩; have X5 := Lib.hid ((Ext.refl we).alloc (.cells (([2] : List Int).map (Value.int .i64)).toArray 3) |>.trans hx);  clear hx)
              | (go_at_call 54; refine (places_c _).mono ?_; rintro e wp ⟨b, rfl, hs, hx⟩; have HS := Lib.hid hs; have HX := Lib.hid (((((HXC.out.trans X1.out).trans X2.out).trans X3.out).trans X4.out).trans (X5.out.trans hx)); clear hs hx)
              | (go_at_call 22; refine (valid_pl b _ HS.out (HGL.out.ext HX.out)).mono ?_; rintro e wq ⟨rfl, hx⟩; have HXQ := Lib.hid (HX.out.trans hx); clear hx))
            go_ret
            exact ⟨rfl, HXQ.out⟩
end Go.Proofs.Ytbhcaniopdgjkaa
