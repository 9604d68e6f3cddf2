import Derived.Test.YtbhcaniopdgjkaaMg24
import Derived.Test.YtbhcaniopdgjkaaMg25
import Derived.Test.YtbhcaniopdgjkaaMg26
import Derived.Test.YtbhcaniopdgjkaaMg9
import Derived.Test.YtbhcaniopdgjkaaMg27
namespace Go.Proofs.Ytbhcaniopdgjkaa
open Go Go.Proofs Go.RowKit
open Plain (SiteD)
set_option maxHeartbeats 1000000
set_option maxRecDepth 100000
/-- A choice holds. -/
def holdF (L : List SiteD) (losses left : Int) (ch : List Int) : Bool := decide ((Plain.fewF L ch (Plain.zonesF L) losses.toNat : Int) ≥ left)
theorem worst_few {L : List SiteD} {ch : List Int} {count : Int} (h : worstFault L ch count = (0, 0)) : (worstR L ch count).2 = (Plain.fewF L ch (Plain.zonesF L) count.toNat : Int) := by
  unfold worstR
  rw [if_pos h]
  obtain ⟨b, e1, e2⟩ := worstP_best L ch (min count.toNat (Plain.zonesF L).length) (Nat.min_le_right _ _)
  rw [e1, Plain.few_worst e2]
theorem holds_c (A C : Option Addr) (L : List SiteD) (ch : List Int) (c1 c2 : Nat) (losses left : Int) (w : World) (hL : L.length ≤ c1) (hc : ch.length ≤ maxLen) (h1 : Sites w A L) (hg : Glob w) (h2 : Sl w .i64 C ch) (hf : worstFault L ch losses = (0, 0)) :
    Calls Try.prog 67 #[.slice A L.length c1, .slice C ch.length c2, .int .i64 losses, .int .i64 left] w (BRet w (holdF L losses left ch)) := by
  have HW := Lib.hid (Worst_c A C L ch c1 c2 losses w hL hc h1 hg h2)
  rw [hf, worst_few hf] at HW
  unfold holdF
  generalize (worstR L ch losses).1 = W at HW
  generalize (Plain.fewF L ch (Plain.zonesF L) losses.toNat : Int) = N at HW ⊢
  clear hL hc h1 hg h2 hf
  go_enter Try.func67, Try.ntmps67
  go_wp2_with (go_at_call 27; refine HW.out.mono ?_; rintro e w3 ⟨v3, rfl, ho3, hx3⟩; have HX3 := Lib.hid hx3; clear ho3 hx3)
  go_ret
  exact ⟨rfl, HX3.out.alloc _⟩
def limitsF (losses left idx : Int) : Int × Int := if inB losses 0 12 = false then (4, idx) else if inB left 0 10 = false then (4, idx - 1) else (0, 0)
theorem limits_c (losses left idx : Int) (w : World) (hi : -1000 ≤ idx ∧ idx ≤ 1000) : Calls Try.prog 37 #[.int .i64 losses, .int .i64 left, .int .i64 idx] w (FRet w (limitsF losses left idx)) := by
  obtain ⟨i0, i1⟩ := hi
  have hw : IntKind.i64.wrap (idx - 1) = idx - 1 := IntWalk.i64_in _ (by omega)
  cases e1 : inB losses 0 12 with
  | false =>
    have HE : Hid (limitsF losses left idx = (4, idx)) := by show _ = _; unfold limitsF; rw [if_pos e1]
    rw [HE.out]
    go_enter Try.func37, Try.ntmps37
    go_wp2_with (first | (go_at_call 29; refine (In_c _ _ _ _).mono ?_; rintro e w' ⟨rfl, rfl⟩; rw [e1]) | (go_at_call 20; refine (At_c _ _ _).mono ?_; rintro e w' ⟨rfl, rfl⟩))
    refine bodyPost_ret (v := .agg #[.int .i64 4, .int .i64 idx]) (fault_res Try.results37 _ _ w.heap.size (_, _) rfl ?_) rfl ⟨rfl, ?_⟩
    · exact (FBlk.new _ _ _).alloc _
    · exact ((Ext.refl w).alloc _).alloc _
  | true =>
    cases e2 : inB left 0 10 with
    | false =>
      have HE : Hid (limitsF losses left idx = (4, idx - 1)) := by show _ = _; unfold limitsF; rw [if_neg (by rw [e1]; simp), if_pos e2]
      rw [HE.out]
      go_enter Try.func37, Try.ntmps37
      go_wp2_with (first | (go_at_call 29; refine (In_c _ _ _ _).mono ?_; rintro e w' ⟨rfl, rfl⟩; first | rw [e1] | rw [e2]) | (go_at_call 20; refine (At_c _ _ _).mono ?_; rintro e w' ⟨rfl, rfl⟩))
      refine bodyPost_ret (v := .agg #[.int .i64 4, .int .i64 (idx - 1)]) (fault_res Try.results37 _ _ w.heap.size (_, _) rfl ?_) rfl ⟨rfl, ?_⟩
      · exact (FBlk.new _ _ _).alloc _
      · exact ((Ext.refl w).alloc _).alloc _
    | true =>
      have HE : Hid (limitsF losses left idx = (0, 0)) := by show _ = _; unfold limitsF; rw [if_neg (by rw [e1]; simp), if_neg (by rw [e2]; simp)]
      rw [HE.out]
      go_enter Try.func37, Try.ntmps37
      go_wp2_with (first | (go_at_call 29; refine (In_c _ _ _ _).mono ?_; rintro e w' ⟨rfl, rfl⟩; first | rw [e1] | rw [e2]))
      refine bodyPost_ret (v := .agg #[.int .i64 0, .int .i64 0]) (fault_res Try.results37 _ _ w.heap.size (_, _) rfl ?_) rfl ⟨rfl, ?_⟩
      · exact FBlk.new _ _ _
      · exact (Ext.refl w).alloc _
theorem Sl.tail {w : World} {k : IntKind} {A : Option Addr} {x : Int} {l : List Int} {c : Nat} (h : Sl w k A (x :: l)) (hc : (x :: l).length ≤ c) : Sl w k (if c = 1 then A else A.map (·.add 1)) l := by
  by_cases h1 : c = 1
  · have : l = [] := by
      simp only [List.length_cons] at hc
      exact List.eq_nil_of_length_eq_zero (by omega)
    subst this
    exact SlC.nil _ _
  · rw [if_neg h1]
    refine Sl.mk fun i y hy => ?_
    obtain ⟨b, o, hA, hcell⟩ := h.at_ (i := i + 1) (by have := (List.getElem?_eq_some_iff.1 hy).1; simp; omega)
    subst hA
    refine ⟨⟨b, o + 1, none⟩, by simp [Addr.add], ?_⟩
    have hadd : (⟨b, o + 1, none⟩ : Addr).add i = ⟨b, o + (i + 1), none⟩ := by
      unfold Addr.add
      by_cases h0 : i = 0
      · subst h0; simp
      · simp [h0]; omega
    rw [hadd, hcell]
    simp [hy]
theorem Sl.head {w : World} {k : IntKind} {A : Option Addr} {x : Int} {l : List Int} (h : Sl w k A (x :: l)) : Sl w k A [x] := by
  refine Sl.mk fun i y hy => ?_
  have hi : i = 0 := by have := (List.getElem?_eq_some_iff.1 hy).1; simp at this; omega
  subst hi
  exact h.one (by simpa using hy)
/-- A number is returned. -/
def NRet (w : World) (n : Int) (e : Ending) (w' : World) : Prop := e = .returned (.int .i64 n) ∧ Ext w w'
theorem info3' : ∃ i, Try.prog.info? 3 = some i ∧ i.size = 1 := by
  obtain ⟨i0, hi, hz0, hz1, hz2⟩ := info_parts info3
  exact ⟨i0, hi, hz1⟩
theorem fewF_cons (l : List SiteD) (ch : List Int) (z : Int) (zs : List Int) (k : Nat) (h1 : k ≠ 0) (h2 : ch ≠ []) : Plain.fewF l ch (z :: zs) k = min (Plain.fewF l (Plain.leftF l ch [z]) zs (k - 1)) (Plain.fewF l ch zs k) := by
  rw [Plain.fewF, if_neg (by intro h; rcases h with h | h; exact h1 h; exact h2 h)]
theorem fewF_end (l : List SiteD) (ch zs : List Int) (k : Nat) (h : k = 0 ∨ zs = [] ∨ ch = []) : Plain.fewF l ch zs k = ch.length := by
  cases zs with
  | nil => rfl
  | cons z zs =>
    rw [Plain.fewF, if_pos]
    rcases h with h | h | h
    · exact .inl h
    · cases h
    · exact .inr h
theorem fewest_c (A : Option Addr) (L : List SiteD) (c1 : Nat) (hL : L.length ≤ 100000) :
    ∀ (zs ch : List Int) (losses : Nat) (C Z : Option Addr) (c2 c3 : Nat) (w : World), losses ≤ 1000 → ch.length ≤ 100000 → zs.length ≤ 1000 → zs.length ≤ c3 → Sites w A L → Sl w .i64 C ch → Sl w .i64 Z zs → (∀ i ∈ ch, 0 ≤ i ∧ i < L.length) →
    Calls Try.prog 68 #[.slice A L.length c1, .slice C ch.length c2, .slice Z zs.length c3, .int .i64 (losses : Int)] w (NRet w (Plain.fewF L ch zs losses)) := by
  intro zs
  induction zs with
  | nil =>
    intro ch losses C Z c2 c3 w hk hc hz hzc h1 h2 h3 hv
    rw [fewF_end L ch [] losses (.inr (.inl rfl))]
    clear h1 h2 h3 hv
    have hz0 : ([] : List Int).length = 0 := rfl
    rw [hz0]
    by_cases e : losses = 0
    · subst e
      go_enter Try.func68, Try.ntmps68
      go_wp2
      go_ret
      exact ⟨rfl, Ext.refl _⟩
    · have e' : ((losses : Int) == 0) = false := by simp; omega
      go_enter Try.func68, Try.ntmps68
      go_wp2
      go_ret
      exact ⟨rfl, Ext.refl _⟩
  | cons z zs ih =>
    intro ch losses C Z c2 c3 w hk hc hz hzc h1 h2 h3 hv
    by_cases e : losses = 0
    · subst e
      rw [fewF_end L ch _ 0 (.inl rfl)]
      clear h1 h2 h3 hv ih
      go_enter Try.func68, Try.ntmps68
      go_wp2
      go_ret
      exact ⟨rfl, Ext.refl _⟩
    · by_cases ec : ch = []
      · subst ec
        rw [fewF_end L [] _ losses (.inr (.inr rfl))]
        clear h1 h2 h3 hv ih
        have e' : ((losses : Int) == 0) = false := by simp; omega
        have hz0 : ([] : List Int).length = 0 := rfl
        rw [hz0]
        obtain ⟨m, hm⟩ : ∃ m, m = (z :: zs).length := ⟨_, rfl⟩
        rw [← hm]
        have hm' : ((m : Int) == 0) = false := by rw [hm]; simp; omega
        clear hm
        go_enter Try.func68, Try.ntmps68
        go_wp2
        go_ret
        exact ⟨rfl, Ext.refl _⟩
      · rw [fewF_cons L ch z zs losses e ec]
        obtain ⟨i0, hi, hsz⟩ := info3'
        have hs1 : ∀ w' : World, (Instr.slice 23 (.slice Z (z :: zs).length c3) none (some (.int .i64 1)) none).run Try.prog w' = .ok (.slice Z 1 c3) w' := fun w' => run_slice_to (P := Try.prog) w' 23 3 i0 Try.underlying23 hi Z (z :: zs).length c3 1 .i64 (by simp at hzc; omega)
        have hs2 := fun w' : World => run_slice_from1 (P := Try.prog) w' 23 3 i0 Try.underlying23 hi hsz Z (z :: zs).length c3 .i64 (by simp)
        have HLO := Lib.hid (fun w' (x : Ext w w') => LeftOf_c A C Z L ch [z] c1 c2 c3 w' hc (by unfold maxLen; simp) hL (h1.ext x) (h2.ext x) (h3.head.ext x) hv)
        have hlv : ∀ i ∈ Plain.leftF L ch [z], 0 ≤ i ∧ i < L.length := fun i hi => hv i (List.mem_filter.1 hi).1
        have HR1 := Lib.hid (fun w' (x : Ext w w') R c (hs : Sl w' .i64 R (Plain.leftF L ch [z])) => ih (Plain.leftF L ch [z]) (losses - 1) R (if c3 = 1 then Z else Z.map (·.add 1)) c (c3 - 1) w' (by omega) (Nat.le_trans (Plain.leftF_len L ch [z]) hc) (by simp at hz; omega) (by simp at hzc; omega) (h1.ext x) hs ((h3.tail hzc).ext x) hlv)
        have HR2 := Lib.hid (fun w' (x : Ext w w') => ih ch losses C (if c3 = 1 then Z else Z.map (·.add 1)) c2 (c3 - 1) w' hk hc (by simp at hz; omega) (by simp at hzc; omega) (h1.ext x) (h2.ext x) ((h3.tail hzc).ext x) hv)
        have hlen : (z :: zs).length - 1 = zs.length := by simp
        rw [hlen] at hs2
        have hlz : (((z :: zs).length : Int) == 0) = false := by simp; omega
        have hlc : ((ch.length : Int) == 0) = false := by
          have : ch.length ≠ 0 := fun h => ec (List.eq_nil_of_length_eq_zero h)
          simp; omega
        have e' : ((losses : Int) == 0) = false := by simp; omega
        have hw : IntKind.i64.wrap ((losses : Int) - 1) = ((losses - 1 : Nat) : Int) := by rw [IntWalk.i64_in _ (by omega)]; omega
        generalize Plain.leftF L ch [z] = LF at *
        generalize (if c3 = 1 then Z else Z.map (·.add 1)) = Z1 at *
        generalize Plain.fewF L LF zs (losses - 1) = n1 at *
        generalize Plain.fewF L ch zs losses = n2 at *
        generalize (z :: zs).length = m at *
        clear ih h1 h2 h3 hv hlv hi hsz
        obtain ⟨R, hR⟩ : ∃ R, R = min n1 n2 := ⟨_, rfl⟩
        rw [← hR]
        have HMI := Lib.hid hR
        clear hR
        go_enter Try.func68, Try.ntmps68
        go_upto_region 3 with (fail)
        go_cut [9] (fun s9 wx => s9 = .int .i64 (n1 : Int) ∧ Ext w wx)
        case first =>
          go_region_held3 (fun _ => True) (trivial) ((first | (go_at_call 26; refine (HLO.out _ (by first | exact Ext.refl _ | exact (Ext.refl _).drew | exact (Ext.refl _).drewN _)).mono ?_; rintro e w5 ⟨v5, rfl, ho5, hx5⟩; obtain ⟨R5, d5, rfl, l5⟩ := own_lv ho5; have HX5 := Lib.hid ((Ext.refl w).drew.trans hx5); have HL5 := Lib.hid l5; clear ho5 hx5 l5) | (go_at_call 68; refine (HR1.out _ HX5.out _ _ HL5.out).mono ?_; rintro e w6 ⟨rfl, hx6⟩; have HX6 := Lib.hid (HX5.out.trans hx6); clear hx6)))
          all_goals go_wp2_with fail
          all_goals go_meet
          all_goals exact ⟨rfl, HX6.out⟩
        case rest =>
          obtain ⟨rfl, hx⟩ := hcut
          have HX := Lib.hid hx
          clear hx
          by_cases hlt : n1 < n2
          · have HE : Hid (n1 = R) := by show _ = _; rw [HMI.out, Nat.min_eq_left (by omega)]
            go_wp2_with (go_at_call 68; refine (HR2.out _ HX.out).mono ?_; rintro e w6 ⟨rfl, hx6⟩; have HX6 := Lib.hid (HX.out.trans hx6); clear hx6)
            go_ret
            exact ⟨by rw [HE.out]; rfl, HX6.out⟩
          · have HE : Hid (n2 = R) := by show _ = _; rw [HMI.out, Nat.min_eq_right (by omega)]
            go_wp2_with (go_at_call 68; refine (HR2.out _ HX.out).mono ?_; rintro e w6 ⟨rfl, hx6⟩; have HX6 := Lib.hid (HX.out.trans hx6); clear hx6)
            go_ret
            exact ⟨by rw [HE.out]; rfl, HX6.out⟩
theorem HoldsOf_c (A C : Option Addr) (L : List SiteD) (ch : List Int) (c1 c2 : Nat) (losses : Nat) (left : Int) (w : World) (hL : L.length ≤ 100000) (hk : losses ≤ 1000) (hc : ch.length ≤ 100000) (h1 : Sites w A L) (h2 : Sl w .i64 C ch) (hv : ∀ i ∈ ch, 0 ≤ i ∧ i < L.length) :
    Calls Try.prog 39 #[.slice A L.length c1, .slice C ch.length c2, .int .i64 (losses : Int), .int .i64 left] w (BRet w (holdF L losses left ch)) := by
  have HZ := Lib.hid (ZonesOf_c A L c1 w hL h1)
  have HF := Lib.hid (fun w' (x : Ext w w') R c (hcc : (Plain.zonesF L).length ≤ c) (hs : Sl w' .i64 R (Plain.zonesF L)) => fewest_c A L c1 hL (Plain.zonesF L) ch losses C R c2 c w' hk hc (by have : (Plain.zonesF L).length ≤ 12 := zonesTo_len L 12; omega) hcc (h1.ext x) (h2.ext x) hs hv)
  unfold holdF
  rw [Int.toNat_natCast]
  generalize Plain.fewF L ch (Plain.zonesF L) losses = N at *
  generalize Plain.zonesF L = ZF at *
  clear h1 h2 hv
  go_enter Try.func39, Try.ntmps39
  go_wp2_with (first | (go_at_call 25; refine HZ.out.mono ?_; rintro e w5 ⟨v5, rfl, ho5, hx5⟩; obtain ⟨R5, d5, rfl, k5, _, _, l5⟩ := own_sl ho5; have HX5 := Lib.hid hx5; have HC5 := Lib.hid (HF.out _ hx5 R5 d5 k5 l5); clear ho5 hx5 l5 k5) | (go_at_call 68; refine HC5.out.mono ?_; rintro e w6 ⟨rfl, hx6⟩; have HX6 := Lib.hid (HX5.out.trans hx6); clear hx6))
  go_ret
  exact ⟨rfl, HX6.out⟩
/-- A truth and a fault are returned. -/
def BFRet (w : World) (b : Bool) (f : Int × Int) (e : Ending) (w' : World) : Prop := e = .returned (.tuple #[.bool b, .agg #[.int .i64 f.1, .int .i64 f.2]]) ∧ Ext w w'
def holdsFault (L : List SiteD) (ch : List Int) (losses left : Int) : Int × Int := if Plain.chosenF L ch = (0, 0) then limitsF losses left (-3) else Plain.chosenF L ch
theorem worst_chosen (L : List SiteD) (ch : List Int) : worstFault L ch 0 = Plain.chosenF L ch := by
  unfold worstFault
  by_cases h : Plain.chosenF L ch = (0, 0)
  · rw [if_neg (by simpa using h), if_neg (by omega), h]
  · rw [if_pos h]
theorem worst_ok {L : List SiteD} {ch : List Int} {losses : Int} (h1 : Plain.chosenF L ch = (0, 0)) (h2 : inB losses 0 12 = true) : worstFault L ch losses = (0, 0) := by
  unfold worstFault
  have := of_decide_eq_true h2
  rw [if_neg (by simpa using h1), if_neg (by omega)]
theorem Holds_c (A C : Option Addr) (L : List SiteD) (ch : List Int) (c1 c2 : Nat) (losses left : Int) (w : World) (hL : L.length ≤ c1) (hc : ch.length ≤ maxLen) (h1 : Sites w A L) (hg : Glob w) (h2 : Sl w .i64 C ch) :
    Calls Try.prog 36 #[.slice A L.length c1, .slice C ch.length c2, .int .i64 losses, .int .i64 left] w (BFRet w (decide (holdsFault L ch losses left = (0, 0)) && holdF L losses left ch) (holdsFault L ch losses left)) := by
  have HX0 := Lib.hid ((Ext.refl w).alloc (.cells #[.int .i64 0, .int .i64 0] 25))
  have HB0 := Lib.hid (FBlk.new w 0 0)
  have HW := Lib.hid (Worst_c A C L ch c1 c2 0 (w.alloc (.cells #[.int .i64 0, .int .i64 0] 25)) hL hc (h1.ext HX0.out) (hg.ext HX0.out) (h2.ext HX0.out))
  have HH := Lib.hid (fun w' (x : Ext w w') hf => holds_c A C L ch c1 c2 losses left w' hL hc (h1.ext x) (hg.ext x) (h2.ext x) hf)
  have HK := Lib.hid (fun h1 h2 => worst_ok (L := L) (ch := ch) (losses := losses) h1 h2)
  have HCC := Lib.hid (chosenF_code L ch)
  rw [worst_chosen] at HW
  unfold holdsFault
  generalize worstFault L ch losses = WF at *
  generalize holdF L losses left ch = HF at *
  generalize (worstR L ch 0).1 = Wl at *
  generalize (worstR L ch 0).2 = Wn at *
  generalize Plain.chosenF L ch = CF at *
  obtain ⟨f1, f2⟩ := CF
  clear h1 hg h2
  by_cases g1 : f1 = 0
  · have hz := HCC.out g1
    rw [if_pos hz]
    injection hz with q1 q2
    have HK2 := Lib.hid (fun h => HK.out (by rw [q1, q2]) h)
    subst q1
    subst q2
    clear g1 HK HCC
    unfold limitsF
    cases e1 : inB losses 0 12 with
    | false =>
      rw [if_pos rfl, show decide (((4 : Int), (-3 : Int)) = (0, 0)) = false from by decide, Bool.false_and]
      go_enter Try.func36, Try.ntmps36
      go_wp2_with (first | (go_at_call 27; refine HW.out.mono ?_; rintro e w1 ⟨v1, rfl, _, hx⟩; have hb := HB0.out.ext hx; have hlt1 : w.heap.size < w1.heap.size := blk_lt hb; have z0 := hb.c0; have z1 := hb.c1; have y0 := hb.z 0; have y1 := hb.z 1; have HB := Lib.hid hb; have HX := Lib.hid (HX0.out.trans hx); clear hb hx) | (go_at_call 64; refine (validLosses_c _ _).mono ?_; rintro e w' ⟨rfl, rfl⟩; rw [e1]) | (go_at_call 65; refine (cfault_c _ _ _).mono ?_; rintro e w' ⟨rfl, rfl⟩))
      refine bodyPost_ret (v := .tuple #[.bool false, .agg #[.int .i64 4, .int .i64 (-3)]]) (lf_res Try.results36 _ _ w.heap.size (_, _) _ rfl rfl ?_) rfl ⟨rfl, ?_⟩
      · exact ((HB.out.set _ _).alloc _).alloc _
      · exact ((HX.out.set2 _ _).alloc _).alloc _
    | true =>
      rw [if_neg (by simp)]
      cases e2 : inB left 0 10 with
      | false =>
        rw [if_pos rfl, show decide (((4 : Int), ((-3 : Int) - 1)) = (0, 0)) = false from by decide, Bool.false_and]
        go_enter Try.func36, Try.ntmps36
        go_wp2_with (first | (go_at_call 27; refine HW.out.mono ?_; rintro e w1 ⟨v1, rfl, _, hx⟩; have hb := HB0.out.ext hx; have hlt1 : w.heap.size < w1.heap.size := blk_lt hb; have z0 := hb.c0; have z1 := hb.c1; have y0 := hb.z 0; have y1 := hb.z 1; have HB := Lib.hid hb; have HX := Lib.hid (HX0.out.trans hx); clear hb hx) | (go_at_call 64; refine (validLosses_c _ _).mono ?_; rintro e w' ⟨rfl, rfl⟩; rw [e1]) | (go_at_call 66; refine (validLeft_c _ _).mono ?_; rintro e w' ⟨rfl, rfl⟩; rw [e2]) | (go_at_call 65; refine (cfault_c _ _ _).mono ?_; rintro e w' ⟨rfl, rfl⟩))
        refine bodyPost_ret (v := .tuple #[.bool false, .agg #[.int .i64 4, .int .i64 (-4)]]) (lf_res Try.results36 _ _ w.heap.size (_, _) _ rfl rfl ?_) rfl ⟨rfl, ?_⟩
        · exact ((HB.out.set _ _).alloc _).alloc _
        · exact ((HX.out.set2 _ _).alloc _).alloc _
      | true =>
        rw [if_neg (by simp), show decide (((0 : Int), (0 : Int)) = (0, 0)) = true from by decide, Bool.true_and]
        have hwf := HK2.out e1
        have HH2 := Lib.hid (fun w' (x : Ext w w') => HH.out w' x hwf)
        clear hwf HH HK2
        go_enter Try.func36, Try.ntmps36
        go_wp2_with (first | (go_at_call 27; refine HW.out.mono ?_; rintro e w1 ⟨v1, rfl, _, hx⟩; have hb := HB0.out.ext hx; have hlt1 : w.heap.size < w1.heap.size := blk_lt hb; have z0 := hb.c0; have z1 := hb.c1; have y0 := hb.z 0; have y1 := hb.z 1; have HB := Lib.hid hb; have HX := Lib.hid (HX0.out.trans hx); clear hb hx) | (go_at_call 64; refine (validLosses_c _ _).mono ?_; rintro e w' ⟨rfl, rfl⟩; rw [e1]) | (go_at_call 66; refine (validLeft_c _ _).mono ?_; rintro e w' ⟨rfl, rfl⟩; rw [e2]) | (go_at_call 67; refine (HH2.out _ (HX.out.alloc _)).mono ?_; rintro e w3 ⟨rfl, hx3⟩; have hb3 := (HB.out.alloc _).ext hx3; have hlt3 : w.heap.size < w3.heap.size := blk_lt hb3; have p0 := hb3.c0; have p1 := hb3.c1; have q0 := hb3.z 0; have q1 := hb3.z 1; have HB3 := Lib.hid hb3; have HX3 := Lib.hid ((HX.out.alloc _).trans hx3); clear hb3 hx3))
        refine bodyPost_ret (v := .tuple #[.bool HF, .agg #[.int .i64 0, .int .i64 0]]) (lf_res Try.results36 _ _ w.heap.size (_, _) _ rfl rfl ?_) rfl ⟨rfl, ?_⟩
        · exact HB3.out.set _ _
        · exact HX3.out.set2 _ _
  · have hne : ¬ (f1, f2) = (0, 0) := by intro h; apply g1; injection h
    rw [if_neg hne, decide_eq_false hne, Bool.false_and]
    clear hne HK HCC HH
    go_enter Try.func36, Try.ntmps36
    go_wp2_with (first | (go_at_call 27; refine HW.out.mono ?_; rintro e w1 ⟨v1, rfl, _, hx⟩; have hb := HB0.out.ext hx; have hlt1 : w.heap.size < w1.heap.size := blk_lt hb; have z0 := hb.c0; have z1 := hb.c1; have y0 := hb.z 0; have y1 := hb.z 1; have HB := Lib.hid hb; have HX := Lib.hid (HX0.out.trans hx); clear hb hx))
    go_region
    all_goals go_wp2
    all_goals refine bodyPost_ret (v := .tuple #[.bool false, .agg #[.int .i64 f1, .int .i64 f2]]) (lf_res Try.results36 _ _ w.heap.size (_, _) _ rfl rfl ?_) rfl ⟨rfl, ?_⟩
    all_goals first | exact ((HB.out.set _ _).alloc _).drew | exact ((HX.out.set2 _ _).alloc _).drew
/-- What the search has found, as a result. -/
def foundF (st : Option (List Int)) : Int × Int := if st.isSome then (0, 0) else (12, -1)
/-- A list in a variable that lies in no block below a bound. -/
def LB (w : World) (base : Nat) (s : Value) (l : List Int) : Prop := ∃ R c, s = .slice R l.length c ∧ Sl w .i64 R l ∧ ∀ a : Addr, R = some a → base ≤ a.block
theorem LB.lv {w : World} {base : Nat} {s : Value} {l : List Int} (h : LB w base s l) : LV w s l := by
  obtain ⟨R, c, h1, h2, _⟩ := h; exact ⟨R, c, h1, h2⟩
theorem LB.ext {w w' : World} {base : Nat} {s : Value} {l : List Int} (h : LB w base s l) (e : Ext w w') : LB w' base s l := by
  obtain ⟨R, c, h1, h2, h3⟩ := h; exact ⟨R, c, h1, h2.ext e, h3⟩
theorem LB.nil (w : World) (base : Nat) : LB w base (.slice none 0 0) [] := ⟨none, 0, rfl, SlC.nil _ _, fun a h => by cases h⟩
theorem Sl.setB {w : World} {R : Option Addr} {l : List Int} (h : Sl w .i64 R l) {g i : Nat} (hg : ∀ a : Addr, R = some a → a.block ≠ g) (x : Value) : Sl (w.setCell ⟨g, i, none⟩ x) .i64 R l := by
  refine Sl.mk fun j y hy => ?_
  obtain ⟨b, o, hA, hc⟩ := h.at_ (List.getElem?_eq_some_iff.1 hy).1
  have hn := hg _ hA
  rw [hy] at hc
  refine ⟨_, hA, ?_⟩
  have hadd : (⟨b, o, none⟩ : Addr).add j = ⟨b, o + j, none⟩ := by
    unfold Addr.add
    by_cases h0 : j = 0
    · subst h0; simp
    · simp [h0]
  rw [hadd]
  have hc' : w.cell? ⟨b, o + j, none⟩ = some (.int .i64 y) := hc
  rw [← hc']
  unfold World.cell?
  simp only
  rw [Below.heap_setCell _ _ _ _ hn]
theorem LB.set2 {w : World} {base g : Nat} {s : Value} {l : List Int} (h : LB w base s l) (hg : g < base) (x y : Value) : LV ((w.setCell ⟨g, 0, none⟩ x).setCell ⟨g, 1, none⟩ y) s l := by
  obtain ⟨R, c, h1, h2, h3⟩ := h
  have hn : ∀ a : Addr, R = some a → a.block ≠ g := fun a ha => by have := h3 a ha; omega
  exact ⟨R, c, h1, (h2.setB hn x).setB hn y⟩
/-- A choice, its cost and a fault are returned. -/
def CRet (w : World) (l : List Int) (n : Int) (f : Int × Int) (e : Ending) (w' : World) : Prop := ∃ v, e = .returned (.tuple #[v, .int .i64 n, .agg #[.int .i64 f.1, .int .i64 f.2]]) ∧ LV w' v l ∧ Ext w w'
def CRetB (w : World) (base : Nat) (l : List Int) (n : Int) (f : Int × Int) (e : Ending) (w' : World) : Prop := ∃ v, e = .returned (.tuple #[v, .int .i64 n, .agg #[.int .i64 f.1, .int .i64 f.2]]) ∧ LB w' base v l ∧ Ext w w'
theorem result_c (v : Value) (l : List Int) (n : Int) (ok : Bool) (base : Nat) (w : World) (h : LB w base v l) :
    Calls Try.prog 69 #[v, .int .i64 n, .bool ok] w (CRetB w base (if ok then l else []) (if ok then n else 0) (if ok then (0, 0) else (12, -1))) := by
  obtain ⟨R, c, rfl, hs, hb⟩ := h
  have HS := Lib.hid hs
  have HB := Lib.hid hb
  clear hs hb
  cases ok with
  | true =>
    simp only [if_true]
    go_enter Try.func69, Try.ntmps69
    go_wp2
    exact bodyPost_ret (v := .tuple #[.slice R l.length c, .int .i64 n, .agg #[.int .i64 0, .int .i64 0]]) (w_res Try.results69 _ _ w.heap.size (_, _) _ _ rfl rfl rfl (FBlk.new _ _ _)) rfl ⟨_, rfl, ⟨R, c, rfl, HS.out.ext ((Ext.refl w).alloc _), HB.out⟩, (Ext.refl w).alloc _⟩
  | false =>
    simp only [Bool.false_eq_true, if_false]
    go_enter Try.func69, Try.ntmps69
    go_wp2_with (go_at_call 65; refine (cfault_c _ _ _).mono ?_; rintro e w' ⟨rfl, rfl⟩)
    exact bodyPost_ret (v := .tuple #[.slice none 0 0, .int .i64 0, .agg #[.int .i64 12, .int .i64 (-1)]]) (w_res Try.results69 _ _ w.heap.size (_, _) _ _ rfl rfl rfl ((FBlk.new _ _ _).alloc _)) rfl ⟨_, rfl, LB.nil _ _, ((Ext.refl w).alloc _).alloc _⟩
end Go.Proofs.Ytbhcaniopdgjkaa
