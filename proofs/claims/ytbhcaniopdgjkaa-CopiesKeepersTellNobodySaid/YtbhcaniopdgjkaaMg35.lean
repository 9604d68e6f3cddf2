import Derived.Test.YtbhcaniopdgjkaaMg31
import Derived.Test.YtbhcaniopdgjkaaMg34
namespace Go.Proofs.Ytbhcaniopdgjkaa
open Go Go.Proofs Go.RowKit
open Plain (SiteD)
set_option maxHeartbeats 1000000
set_option maxRecDepth 100000
theorem foldl_max_lt (n : Int) : ∀ (l : List Int) (a : Int), l.foldl max a < n ↔ a < n ∧ ∀ z ∈ l, z < n
  | [], a => by simp
  | x :: r, a => by
    rw [List.foldl_cons, foldl_max_lt n r]
    simp only [List.mem_cons, forall_eq_or_imp]
    constructor
    · rintro ⟨h1, h2⟩
      exact ⟨by omega, by omega, h2⟩
    · rintro ⟨h1, h2, h3⟩
      exact ⟨by omega, h3⟩
theorem maxOf_lt {l : List Int} (h : l ≠ []) (n : Int) : Lib.maxOf l < n ↔ ∀ z ∈ l, z < n := by
  unfold Lib.maxOf
  rw [foldl_max_lt]
  cases l with
  | nil => exact absurd rfl h
  | cons x r =>
    constructor
    · exact fun h => h.2
    · exact fun h => ⟨h x (by simp), h⟩
theorem most_apart {L : List SiteD} (hs : Plain.sitesF L = (0, 0)) (ch : List Int) (need : Int) : decide (mostF L ch < need) = Plain.apartF L need ch := by
  rw [Bool.eq_iff_iff, decide_eq_true_eq]
  unfold mostF Plain.apartF
  rw [maxOf_lt (by simp), List.all_eq_true]
  have hc : ∀ z : Nat, cntF (ch.flatMap (Plain.zonesAt L)) z = Plain.inZone L ch (z : Int) := fun z => Plain.tally_zone hs ch (z : Int)
  constructor
  · intro h z hz
    obtain ⟨k, hk, rfl⟩ := List.mem_map.1 hz
    have := h _ (List.mem_map.2 ⟨k, hk, rfl⟩)
    rw [hc] at this
    exact decide_eq_true this
  · intro h z hz
    obtain ⟨k, hk, rfl⟩ := List.mem_map.1 hz
    have := of_decide_eq_true (h _ (List.mem_map.2 ⟨k, hk, rfl⟩))
    rw [hc]
    exact this
/-- What Keepers asks of a choice. -/
def keepB (L : List SiteD) (need losses : Int) (ch : List Int) : Bool := Plain.apartF L need ch && holdF L losses need ch
theorem keep1_c (R A : Option Addr) (L : List SiteD) (ch : List Int) (c c1 : Nat) (need losses : Int) (b1 b2 b3 : Nat) (w : World) (hL : L.length ≤ c1) (hs : Plain.sitesF L = (0, 0)) (h1 : Sites w A L) (hg : Glob w) (h2 : Sl w .i64 R ch) (hch : Plain.chosenF L ch = (0, 0)) (hf : worstFault L ch losses = (0, 0))
    (k1 : w.cell? ⟨b1, 0, none⟩ = some (.slice A L.length c1)) (k2 : w.cell? ⟨b2, 0, none⟩ = some (.int .i64 need)) (k3 : w.cell? ⟨b3, 0, none⟩ = some (.int .i64 losses)) :
    Calls Try.prog 75 #[.slice R ch.length c, .pointer (some ⟨b1, 0, none⟩), .pointer (some ⟨b2, 0, none⟩), .pointer (some ⟨b3, 0, none⟩)] w (BRet w (keepB L need losses ch)) := by
  have hv := (Plain.risingC_iff.1 (chosenF_ok hch).2).2
  have hcl := rising_len (chosenF_ok hch).2
  have h10 := sitesF_len hs
  have HM := Lib.hid (fun w' (x : Ext w w') => most_c A R L ch c1 c w' (by omega) hs (h1.ext x) (h2.ext x) hv)
  have HH := Lib.hid (fun w' (x : Ext w w') => holds_c A R L ch c1 c losses need w' hL (by unfold maxLen; omega) (h1.ext x) (hg.ext x) (h2.ext x) hf)
  unfold keepB
  rw [← most_apart hs]
  generalize mostF L ch = M at *
  generalize holdF L losses need ch = HF at *
  clear h1 hg h2 hf hv hs
  by_cases hlt : M < need
  · have hdec := decide_eq_true hlt
    rw [hdec, Bool.true_and]
    clear hlt
    go_enter Try.func75, Try.ntmps75
    go_wp2
    go_region_held3 (fun w' => w'.cell? ⟨b1, 0, none⟩ = some (.slice A L.length c1) ∧ w'.cell? ⟨b2, 0, none⟩ = some (.int .i64 need) ∧ w'.cell? ⟨b3, 0, none⟩ = some (.int .i64 losses)) (go_keep) ((first | (go_at_call 76; refine (HM.out _ (by first | exact Ext.refl _ | exact (Ext.refl _).drew | exact (Ext.refl _).drewN _)).mono ?_; rintro e w5 ⟨rfl, hx5⟩; have q1 := hx5.cell k1; have q2 := hx5.cell k2; have q3 := hx5.cell k3; have HX5 := Lib.hid ((Ext.refl w).drew.trans hx5); clear hx5) | (go_at_call 67; refine (HH.out _ HX5.out).mono ?_; rintro e w6 ⟨rfl, hx6⟩; have r1 := hx6.cell q1; have r2 := hx6.cell q2; have r3 := hx6.cell q3; have HX6 := Lib.hid (HX5.out.trans hx6); clear hx6)))
    all_goals go_wp2
    all_goals go_ret
    all_goals exact ⟨rfl, HX6.out⟩
  · rw [decide_eq_false hlt, Bool.false_and]
    go_enter Try.func75, Try.ntmps75
    go_wp2
    refine wp_region_held_drew (S := fun w' => w'.cell? ⟨b1, 0, none⟩ = some (.slice A L.length c1) ∧ w'.cell? ⟨b2, 0, none⟩ = some (.int .i64 need) ∧ w'.cell? ⟨b3, 0, none⟩ = some (.int .i64 losses)) (by kernel_rfl) ⟨k1, k2, k3⟩ (fun hHeld => ?_)
    refine wpAnyH_take (i := 0) (oi := { dst := some 6, op := _, type := _, pos := _, after := _, guard := _ }) (v := ?v0) rfl (by kernel_rfl) (by kernel_rfl) (by kernel_rfl) (fun _ _ _ h => h) (Or.inl ⟨by rfl, ?hy0⟩) (by assumption) ?rest0
    case hy0 =>
      intro w hSw
      (try dsimp only at hSw)
      go_simp
      (try with_reducible rfl)
    try simp only [Act.put, List.setIfInBounds_toArray, List.set_cons_zero, List.set_cons_succ]
    refine wpAnyH_take (i := 1) (oi := { dst := some 7, op := _, type := _, pos := _, after := _, guard := _ }) (v := ?v1) rfl (by kernel_rfl) (by kernel_rfl) (by kernel_rfl) (fun _ _ _ h => h) (Or.inl ⟨by rfl, ?hy1⟩) (by assumption) ?rest1
    case hy1 =>
      intro w hSw
      (try dsimp only at hSw)
      go_simp
      (try with_reducible rfl)
    try simp only [Act.put, List.setIfInBounds_toArray, List.set_cons_zero, List.set_cons_succ]
    refine wpAnyH_take (i := 3) (oi := { dst := some 9, op := _, type := _, pos := _, after := _, guard := _ }) (v := ?v3) rfl (by kernel_rfl) (by kernel_rfl) (by kernel_rfl) (fun _ _ _ h => h) (Or.inl ⟨by rfl, ?hy3⟩) (by assumption) ?rest3
    case hy3 =>
      intro w hSw
      (try dsimp only at hSw)
      go_simp
      (try with_reducible rfl)
    try simp only [Act.put, List.setIfInBounds_toArray, List.set_cons_zero, List.set_cons_succ]
    refine wpAnyH_ready (rs := [2]) (by kernel_rfl) (by simp) ?_
    refine AllReadyH.cons rfl (fun K hK => ?step2) AllReadyH.nil
    case step2 =>
      go_simp
      go_at_call 76
      refine (HM.out _ ((Ext.refl _).drew)).mono ?_
      rintro e w5 ⟨rfl, hx5⟩
      have q1 := hx5.cell k1
      have q2 := hx5.cell k2
      have q3 := hx5.cell k3
      have HX5 := Lib.hid ((Ext.refl w).drew.trans hx5)
      clear hx5 hHeld
      go_wp2_with fail
      refine hK.out _ _ ?_ (fun hHeld => ?_)
      · exact ⟨q1, q2, q3⟩
      clear hK K
      (try simp only [Act.put, List.setIfInBounds_toArray, List.set_cons_zero, List.set_cons_succ])
      refine wpAnyH_take (i := 4) (oi := { dst := some 10, op := _, type := _, pos := _, after := _, guard := _ }) (v := .bool false) rfl (by kernel_rfl) (by kernel_rfl) (by kernel_rfl) (fun _ _ _ h => h) (Or.inl ⟨by rfl, ?hy4⟩) (by assumption) ?rest4
      case hy4 =>
        intro w hSw
        (try dsimp only at hSw)
        go_simp
      try simp only [Act.put, List.setIfInBounds_toArray, List.set_cons_zero, List.set_cons_succ]
      refine wpAnyH_take (i := 5) (oi := { dst := some 11, op := _, type := _, pos := _, after := _, guard := _ }) (v := ?v5) rfl (by kernel_rfl) (by kernel_rfl) (by kernel_rfl) (fun _ _ _ h => h) (Or.inl ⟨by rfl, ?hy5⟩) (by assumption) ?rest5
      case hy5 =>
        intro w hSw
        (try dsimp only at hSw)
        go_simp
        (try with_reducible rfl)
      try simp only [Act.put, List.setIfInBounds_toArray, List.set_cons_zero, List.set_cons_succ]
      refine wpAnyH_take (i := 6) (oi := { dst := some 12, op := _, type := _, pos := _, after := _, guard := _ }) (v := undef) rfl (by kernel_rfl) (by kernel_rfl) (by kernel_rfl) (fun _ _ _ h => h) (Or.inr ⟨by rfl, rfl⟩) (by assumption) ?_
      try simp only [Act.put, List.setIfInBounds_toArray, List.set_cons_zero, List.set_cons_succ]
      refine wpAnyH_take (i := 7) (oi := { dst := some 13, op := _, type := _, pos := _, after := _, guard := _ }) (v := undef) rfl (by kernel_rfl) (by kernel_rfl) (by kernel_rfl) (fun _ _ _ h => h) (Or.inr ⟨by rfl, rfl⟩) (by assumption) ?_
      try simp only [Act.put, List.setIfInBounds_toArray, List.set_cons_zero, List.set_cons_succ]
      refine wpAnyH_take (i := 8) (oi := { dst := some 14, op := _, type := _, pos := _, after := _, guard := _ }) (v := undef) rfl (by kernel_rfl) (by kernel_rfl) (by kernel_rfl) (fun _ _ _ h => h) (Or.inr ⟨by rfl, rfl⟩) (by assumption) ?_
      try simp only [Act.put, List.setIfInBounds_toArray, List.set_cons_zero, List.set_cons_succ]
      refine wpAnyH_take (i := 9) (oi := { dst := some 15, op := _, type := _, pos := _, after := _, guard := _ }) (v := undef) rfl (by kernel_rfl) (by kernel_rfl) (by kernel_rfl) (fun _ _ _ h => h) (Or.inr ⟨by rfl, rfl⟩) (by assumption) ?_
      try simp only [Act.put, List.setIfInBounds_toArray, List.set_cons_zero, List.set_cons_succ]
      refine wpAnyH_take (i := 10) (oi := { dst := some 16, op := _, type := _, pos := _, after := _, guard := _ }) (v := undef) rfl (by kernel_rfl) (by kernel_rfl) (by kernel_rfl) (fun _ _ _ h => h) (Or.inr ⟨by rfl, rfl⟩) (by assumption) ?_
      try simp only [Act.put, List.setIfInBounds_toArray, List.set_cons_zero, List.set_cons_succ]
      refine wpAnyH_take (i := 11) (oi := { dst := some 17, op := _, type := _, pos := _, after := _, guard := _ }) (v := ?v11) rfl (by kernel_rfl) (by kernel_rfl) (by kernel_rfl) (fun _ _ _ h => h) (Or.inl ⟨by rfl, ?hy11⟩) (by assumption) ?rest11
      case hy11 =>
        intro w hSw
        (try dsimp only at hSw)
        go_simp
        (try with_reducible rfl)
      try simp only [Act.put, List.setIfInBounds_toArray, List.set_cons_zero, List.set_cons_succ]
      refine wpAnyH_take (i := 12) (oi := { dst := some 5, op := _, type := _, pos := _, after := _, guard := _ }) (v := ?v12) rfl (by kernel_rfl) (by kernel_rfl) (by kernel_rfl) (fun _ _ _ h => h) (Or.inl ⟨by rfl, ?hy12⟩) (by assumption) ?rest12
      case hy12 =>
        intro w hSw
        (try dsimp only at hSw)
        go_simp
        (try with_reducible rfl)
      try simp only [Act.put, List.setIfInBounds_toArray, List.set_cons_zero, List.set_cons_succ]
      refine wpAnyH_done (by kernel_rfl) ?_ _
      go_wp2
      go_ret
      exact ⟨rfl, HX5.out⟩
def keepFault (L : List SiteD) (need losses : Int) : Int × Int := if Plain.sitesF L = (0, 0) then (if inB need 1 10 = false then (4, -2) else if inB losses 0 12 = false then (4, -3) else (0, 0)) else Plain.sitesF L
def keepSt (L : List SiteD) (need losses : Int) : Option (List Int) := Plain.accC (costF L) (keepB L need losses) (upTo L.length) (2 ^ L.length)
def keepR (L : List SiteD) (need losses : Int) : List Int × Int × (Int × Int) := endR L (keepFault L need losses) (keepSt L need losses)
theorem Keepers_c (A : Option Addr) (L : List SiteD) (c1 : Nat) (need losses : Int) (w : World) (hL : L.length ≤ c1) (h1 : Sites w A L) (hg : Glob w) :
    Calls Try.prog 42 #[.slice A L.length c1, .int .i64 need, .int .i64 losses] w (CRet w (keepR L need losses).1 (keepR L need losses).2.1 (keepR L need losses).2.2) := by
  have HX0 := Lib.hid (w4_ext w A L.length c1 need losses)
  obtain ⟨hb0, hb1, hb2, hb3⟩ := w4_blk w A L.length c1 need losses
  have HV := Lib.hid (Validate_c A L c1 _ hL (h1.ext HX0.out) (hg.ext HX0.out))
  have HB0 := Lib.hid hb0
  have HB1 := Lib.hid hb1
  have HB2 := Lib.hid hb2
  have HB3 := Lib.hid hb3
  have HSC := Lib.hid (sitesF_code L)
  unfold keepR endR keepFault
  have HH : Hid (Plain.sitesF L = (0, 0) → inB losses 0 12 = true → ∀ w1, Ext (w4 w A L.length c1 need losses) w1 → ∀ R c, Sl w1 .i64 R (upTo L.length) →
      Calls Try.prog 70 #[.slice A L.length c1, .slice R L.length c, .func (.func 75) #[] #[.pointer (some ⟨w.heap.size, 0, none⟩), .pointer (some ⟨w.heap.size + 1, 0, none⟩), .pointer (some ⟨w.heap.size + 1 + 1, 0, none⟩)]] w1
        fun e w' => ∃ v, e = .returned (.tuple #[v, .int .i64 (costF L ((keepSt L need losses).getD [])), .bool (keepSt L need losses).isSome]) ∧ LB w' w1.heap.size v ((keepSt L need losses).getD []) ∧ Ext w1 w') := by
    intro hs hin w1 x R c hsl
    have x0 := HX0.out.trans x
    have h10 := sitesF_len hs
    have := cheapest75_c w.heap.size (w.heap.size + 1) (w.heap.size + 1 + 1) A R L (upTo L.length) c1 c (keepB L need losses) w1 (by rw [upTo_len]; exact h10) (cost_ok hs) (h1.ext x0) hsl upTo_in (fun w2 x2 R2 c2 ch hch _ hsl2 => by
      have x3 := x0.trans x2
      have hcl : ch.length ≤ 10 := by have := hch.length_le; rw [upTo_len] at this; omega
      exact keep1_c R2 A L ch c2 c1 need losses _ _ _ w2 hL hs (h1.ext x3) (hg.ext x3) hsl2 (sub_upTo_chosen hs hch) (worst_ok (sub_upTo_chosen hs hch) hin) ((x.trans x2).cell (blk_cell HB0.out 0)) ((x.trans x2).cell (blk_cell HB1.out 0)) ((x.trans x2).cell (blk_cell HB2.out 0)))
    rw [upTo_len] at this
    exact this
  have HA := Lib.hid (fun w1 => fun (h : L.length ≤ 100000) => all_c A L.length c1 w1 h)
  have HLE := Lib.hid (fun h => sitesF_len (L := L) h)
  have HUL := Lib.hid (upTo_len L.length)
  have HRE := Lib.hid (fun w1 v b h => result_end v L (keepSt L need losses) b w1 h)
  unfold w4 at *
  generalize costF L ((keepSt L need losses).getD []) = PN at *
  generalize keepSt L need losses = ST at *
  generalize Plain.sitesF L = SF at *
  generalize upTo L.length = UT at *
  obtain ⟨f1, f2⟩ := SF
  clear h1 hg hb0 hb1 hb2 hb3
  by_cases g1 : f1 = 0
  · have hz := HSC.out g1
    have hl10 := HLE.out hz
    rw [if_pos hz]
    have HH2 := Lib.hid (HH.out hz)
    injection hz with q1 q2
    subst q1
    subst q2
    clear g1 HSC HLE HH
    cases e1 : inB need 1 10 with
    | false =>
      rw [if_pos (show (false = false) from rfl), if_neg (show ¬ (((4 : Int), (-2 : Int)) = (0, 0)) by decide)]
      have hn := of_decide_eq_false e1
      by_cases hlow : need < 1
      · clear hn
        go_enter Try.func42, Try.ntmps42
        go_wp2_with (first | (go_at_call 22; refine HV.out.mono ?_; rintro e w1 ⟨rfl, hx⟩; have hb := HB3.out.ext hx; have m0 : w1.cell? ⟨w.heap.size, 0, none⟩ = some (.slice A L.length c1) := blk_cell (ext_blk hx HB0.out) 0; have m1 : w1.cell? ⟨w.heap.size + 1, 0, none⟩ = some (.int .i64 need) := blk_cell (ext_blk hx HB1.out) 0; have m2 : w1.cell? ⟨w.heap.size + 1 + 1, 0, none⟩ = some (.int .i64 losses) := blk_cell (ext_blk hx HB2.out) 0; have hlt3 : w.heap.size + 1 + 1 + 1 < w1.heap.size := blk_lt hb; have hlt2 : w.heap.size + 1 + 1 < w1.heap.size := Nat.lt_of_succ_lt hlt3; have hlt1 : w.heap.size + 1 < w1.heap.size := Nat.lt_of_succ_lt hlt2; have hlt0 : w.heap.size < w1.heap.size := Nat.lt_of_succ_lt hlt1; have z0 := hb.c0; have z1 := hb.c1; have y0 := hb.z 0; have y1 := hb.z 1; have HB := Lib.hid hb; have HXV := Lib.hid hx; have HX := Lib.hid (HX0.out.trans hx); clear hb hx) | (go_at_call 65; refine (cfault_c _ _ _).mono ?_; rintro e w' ⟨rfl, rfl⟩))
        refine bodyPost_ret (v := .tuple #[.slice none 0 0, .int .i64 0, .agg #[.int .i64 4, .int .i64 (-2)]]) (w_res Try.results42 _ _ (w.heap.size + 1 + 1 + 1) (_, _) _ _ rfl rfl rfl ?_) rfl ⟨_, rfl, ⟨none, 0, rfl, SlC.nil _ _⟩, ?_⟩
        · exact ((HB.out.set _ _).alloc _).alloc _
        · exact ((HX.out.set2at (by omega) _ _).alloc _).alloc _
      · have e3 : inB need 0 10 = false := decide_eq_false (by omega)
        go_enter Try.func42, Try.ntmps42
        go_wp2_with (first | (go_at_call 22; refine HV.out.mono ?_; rintro e w1 ⟨rfl, hx⟩; have hb := HB3.out.ext hx; have m0 : w1.cell? ⟨w.heap.size, 0, none⟩ = some (.slice A L.length c1) := blk_cell (ext_blk hx HB0.out) 0; have m1 : w1.cell? ⟨w.heap.size + 1, 0, none⟩ = some (.int .i64 need) := blk_cell (ext_blk hx HB1.out) 0; have m2 : w1.cell? ⟨w.heap.size + 1 + 1, 0, none⟩ = some (.int .i64 losses) := blk_cell (ext_blk hx HB2.out) 0; have hlt3 : w.heap.size + 1 + 1 + 1 < w1.heap.size := blk_lt hb; have hlt2 : w.heap.size + 1 + 1 < w1.heap.size := Nat.lt_of_succ_lt hlt3; have hlt1 : w.heap.size + 1 < w1.heap.size := Nat.lt_of_succ_lt hlt2; have hlt0 : w.heap.size < w1.heap.size := Nat.lt_of_succ_lt hlt1; have z0 := hb.c0; have z1 := hb.c1; have y0 := hb.z 0; have y1 := hb.z 1; have HB := Lib.hid hb; have HXV := Lib.hid hx; have HX := Lib.hid (HX0.out.trans hx); clear hb hx) | (go_at_call 66; refine (validLeft_c _ _).mono ?_; rintro e w' ⟨rfl, rfl⟩; rw [e3]) | (go_at_call 65; refine (cfault_c _ _ _).mono ?_; rintro e w' ⟨rfl, rfl⟩))
        refine bodyPost_ret (v := .tuple #[.slice none 0 0, .int .i64 0, .agg #[.int .i64 4, .int .i64 (-2)]]) (w_res Try.results42 _ _ (w.heap.size + 1 + 1 + 1) (_, _) _ _ rfl rfl rfl ?_) rfl ⟨_, rfl, ⟨none, 0, rfl, SlC.nil _ _⟩, ?_⟩
        · exact ((HB.out.set _ _).alloc _).alloc _
        · exact ((HX.out.set2at (by omega) _ _).alloc _).alloc _
    | true =>
      rw [if_neg (show ¬ (true = false) by simp)]
      have hn := of_decide_eq_true e1
      have hlow : ¬ need < 1 := by omega
      have e3 : inB need 0 10 = true := decide_eq_true (by omega)
      cases e2 : inB losses 0 12 with
      | false =>
        rw [if_pos (show (false = false) from rfl), if_neg (show ¬ (((4 : Int), (-3 : Int)) = (0, 0)) by decide)]
        go_enter Try.func42, Try.ntmps42
        go_wp2_with (first | (go_at_call 22; refine HV.out.mono ?_; rintro e w1 ⟨rfl, hx⟩; have hb := HB3.out.ext hx; have m0 : w1.cell? ⟨w.heap.size, 0, none⟩ = some (.slice A L.length c1) := blk_cell (ext_blk hx HB0.out) 0; have m1 : w1.cell? ⟨w.heap.size + 1, 0, none⟩ = some (.int .i64 need) := blk_cell (ext_blk hx HB1.out) 0; have m2 : w1.cell? ⟨w.heap.size + 1 + 1, 0, none⟩ = some (.int .i64 losses) := blk_cell (ext_blk hx HB2.out) 0; have hlt3 : w.heap.size + 1 + 1 + 1 < w1.heap.size := blk_lt hb; have hlt2 : w.heap.size + 1 + 1 < w1.heap.size := Nat.lt_of_succ_lt hlt3; have hlt1 : w.heap.size + 1 < w1.heap.size := Nat.lt_of_succ_lt hlt2; have hlt0 : w.heap.size < w1.heap.size := Nat.lt_of_succ_lt hlt1; have z0 := hb.c0; have z1 := hb.c1; have y0 := hb.z 0; have y1 := hb.z 1; have HB := Lib.hid hb; have HXV := Lib.hid hx; have HX := Lib.hid (HX0.out.trans hx); clear hb hx) | (go_at_call 66; refine (validLeft_c _ _).mono ?_; rintro e w' ⟨rfl, rfl⟩; rw [e3]) | (go_at_call 64; refine (validLosses_c _ _).mono ?_; rintro e w' ⟨rfl, rfl⟩; rw [e2]) | (go_at_call 65; refine (cfault_c _ _ _).mono ?_; rintro e w' ⟨rfl, rfl⟩))
        refine bodyPost_ret (v := .tuple #[.slice none 0 0, .int .i64 0, .agg #[.int .i64 4, .int .i64 (-3)]]) (w_res Try.results42 _ _ (w.heap.size + 1 + 1 + 1) (_, _) _ _ rfl rfl rfl ?_) rfl ⟨_, rfl, ⟨none, 0, rfl, SlC.nil _ _⟩, ?_⟩
        · exact ((HB.out.set _ _).alloc _).alloc _
        · exact ((HX.out.set2at (by omega) _ _).alloc _).alloc _
      | true =>
        rw [if_neg (show ¬ (true = false) by simp), if_pos (show (((0 : Int), (0 : Int)) = (0, 0)) from rfl)]
        have HH3 := Lib.hid (HH2.out e2)
        have HA2 := Lib.hid (fun w1 => HA.out w1 (by omega))
        clear HA HH2
        go_enter Try.func42, Try.ntmps42
        go_upto_region 8 with (first | (go_at_call 22; refine HV.out.mono ?_; rintro e w1 ⟨rfl, hx⟩; have hb := HB3.out.ext hx; have m0 : w1.cell? ⟨w.heap.size, 0, none⟩ = some (.slice A L.length c1) := blk_cell (ext_blk hx HB0.out) 0; have m1 : w1.cell? ⟨w.heap.size + 1, 0, none⟩ = some (.int .i64 need) := blk_cell (ext_blk hx HB1.out) 0; have m2 : w1.cell? ⟨w.heap.size + 1 + 1, 0, none⟩ = some (.int .i64 losses) := blk_cell (ext_blk hx HB2.out) 0; have hlt3 : w.heap.size + 1 + 1 + 1 < w1.heap.size := blk_lt hb; have hlt2 : w.heap.size + 1 + 1 < w1.heap.size := Nat.lt_of_succ_lt hlt3; have hlt1 : w.heap.size + 1 < w1.heap.size := Nat.lt_of_succ_lt hlt2; have hlt0 : w.heap.size < w1.heap.size := Nat.lt_of_succ_lt hlt1; have z0 := hb.c0; have z1 := hb.c1; have y0 := hb.z 0; have y1 := hb.z 1; have HB := Lib.hid hb; have HXV := Lib.hid hx; have HX := Lib.hid (HX0.out.trans hx); clear hb hx) | (go_at_call 66; refine (validLeft_c _ _).mono ?_; rintro e w' ⟨rfl, rfl⟩; rw [e3]) | (go_at_call 64; refine (validLosses_c _ _).mono ?_; rintro e w' ⟨rfl, rfl⟩; rw [e2]))
        go_region_held3 (fun w' => w'.cell? ⟨w.heap.size, 0, none⟩ = some (.slice A L.length c1)) ((first | go_keep | exact keep_set2 (by assumption) (by omega))) ((first | (go_at_call 71; refine (HA2.out _).mono ?_; rintro e w5 ⟨v5, rfl, ho5, hx5⟩; have hx5' := ((Ext.refl w1).alloc _).drew.trans hx5; obtain ⟨R5, d5, hs5, l5⟩ := own_lv ho5; subst hs5; have m3 := hx5'.cell m0; have hg5 : (w.heap.size + 1 + 1 + 1) < w5.heap.size := Nat.lt_of_lt_of_le hlt3 hx5'.size; have HX5 := Lib.hid hx5'; have HC5 := Lib.hid (HH3.out _ (HXV.out.trans hx5') R5 d5 l5); rw [HUL.out]; clear ho5 hx5 hx5' l5) | (go_at_call 70; refine HC5.out.mono ?_; rintro e w6 ⟨v6, rfl, hl6, hx6⟩; have m4 := hx6.cell m3; have HX6 := Lib.hid (HX5.out.trans hx6); have HR6 := Lib.hid (HRE.out _ _ _ hl6); clear hx6 hl6) | (go_at_call 69; refine HR6.out.mono ?_; rintro e w7 ⟨v7, rfl, hl7, hx7⟩; have m5 := hx7.cell m4; have hx7' := HX6.out.trans hx7; have hb7 := HB.out.ext hx7'; have hlt7 : (w.heap.size + 1 + 1 + 1) < w7.heap.size := blk_lt hb7; have z0' := hb7.c0; have z1' := hb7.c1; have y0' := hb7.z 0; have y1' := hb7.z 1; have HB7 := Lib.hid hb7; have HX7 := Lib.hid (HX.out.trans hx7'); have HL7 := Lib.hid hl7; clear hx7 hx7' hb7 hl7)))
        all_goals go_wp2
        all_goals refine bodyPost_ret (v := .tuple #[v7, .int .i64 PN, .agg #[.int .i64 (foundF ST).1, .int .i64 (foundF ST).2]]) (w_res Try.results42 _ _ (w.heap.size + 1 + 1 + 1) (_, _) _ _ rfl rfl rfl ?_) rfl ⟨_, rfl, ?_, ?_⟩
        all_goals first | exact HB7.out.set _ _ | exact HL7.out.set2 hg5 _ _ | exact HX7.out.set2at (by omega) _ _
  · have hne : ¬ (f1, f2) = (0, 0) := by intro h; apply g1; injection h
    rw [if_neg hne, if_neg hne]
    go_enter Try.func42, Try.ntmps42
    go_wp2_with (first | (go_at_call 22; refine HV.out.mono ?_; rintro e w1 ⟨rfl, hx⟩; have hb := HB3.out.ext hx; have m0 : w1.cell? ⟨w.heap.size, 0, none⟩ = some (.slice A L.length c1) := blk_cell (ext_blk hx HB0.out) 0; have m1 : w1.cell? ⟨w.heap.size + 1, 0, none⟩ = some (.int .i64 need) := blk_cell (ext_blk hx HB1.out) 0; have m2 : w1.cell? ⟨w.heap.size + 1 + 1, 0, none⟩ = some (.int .i64 losses) := blk_cell (ext_blk hx HB2.out) 0; have hlt3 : w.heap.size + 1 + 1 + 1 < w1.heap.size := blk_lt hb; have hlt2 : w.heap.size + 1 + 1 < w1.heap.size := Nat.lt_of_succ_lt hlt3; have hlt1 : w.heap.size + 1 < w1.heap.size := Nat.lt_of_succ_lt hlt2; have hlt0 : w.heap.size < w1.heap.size := Nat.lt_of_succ_lt hlt1; have z0 := hb.c0; have z1 := hb.c1; have y0 := hb.z 0; have y1 := hb.z 1; have HB := Lib.hid hb; have HXV := Lib.hid hx; have HX := Lib.hid (HX0.out.trans hx); clear hb hx))
    go_region
    all_goals go_wp2
    all_goals refine bodyPost_ret (v := .tuple #[.slice none 0 0, .int .i64 0, .agg #[.int .i64 f1, .int .i64 f2]]) (w_res Try.results42 _ _ (w.heap.size + 1 + 1 + 1) (_, _) _ _ rfl rfl rfl ?_) rfl ⟨_, rfl, ⟨none, 0, rfl, SlC.nil _ _⟩, ?_⟩
    all_goals first | exact ((HB.out.set _ _).alloc _).drew | exact ((HX.out.set2at (by omega) _ _).alloc _).drew
end Go.Proofs.Ytbhcaniopdgjkaa
