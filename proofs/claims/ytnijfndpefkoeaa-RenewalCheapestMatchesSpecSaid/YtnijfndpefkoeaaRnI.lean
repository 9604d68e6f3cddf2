import Derived.Test.YtnijfndpefkoeaaRnH
namespace Go.Proofs.Ytnijfndpefkoeaa
open Go Go.Proofs Go.RowKit
open Ren (E lessE atE swapE UpAt DnAt DnIs Heap Child par)
set_option maxHeartbeats 6400000
set_option maxRecDepth 100000
/-- What down leaves. -/
def DnRet (w : World) (B n : Nat) (q0 : List E) (e : Ending) (w' : World) : Prop := ∃ b q2 i, e = .returned (.bool b) ∧ QIs w' B q2 ∧ DnIs q0 q2 i n ∧ Heap q2 n ∧ Below (B - 1) w w'
theorem down_c (q0 q : List E) (B n : Nat) (w : World) (h : QIs w B q) (hd : DnIs q0 q 0 n) (hl : n ≤ 100) : Calls Try.prog 43 #[.iface 71 (.pointer (some ⟨B, 0, none⟩)), .int .i64 0, .int .i64 (n : Int)] w (DnRet w B n q0) := by
  go_enter Try.func43, Try.ntmps43
  go_wp2
  go_loopw [7] (fun t7 wx => ∃ (i : Nat) (p : List E), t7 = .int .i64 (i : Int) ∧ i ≤ n ∧ QIs wx B p ∧ DnIs q0 p i n ∧ Below (B - 1) w wx) (fun t7 _ => n - (intOf t7).toNat)
  case atStart => exact ⟨0, q, rfl, Nat.zero_le _, h, hd, Below.refl (B - 1) w⟩
  case round =>
    obtain ⟨i, p, rfl, hin, hq, hd, hb⟩ := hrel
    have hlen := hd.len
    obtain ⟨g, cap, cur, hop⟩ := qis_open hq (by omega)
    have HD := Lib.hid hd
    have HB := Lib.hid hb
    have HQ := Lib.hid hop
    have HLEN := Lib.hid hlen
    clear hq hd hb h
    have w1 : IntKind.i64.wrap (2 * (i : Int)) = 2 * (i : Int) := IntWalk.i64_in _ (by omega)
    have w2 : IntKind.i64.wrap (2 * (i : Int) + 1) = 2 * (i : Int) + 1 := IntWalk.i64_in _ (by omega)
    by_cases hlf : n ≤ 2 * i + 1
    · have e1 : decide (2 * (i : Int) + 1 ≥ (n : Int)) = true := decide_eq_true (by omega)
      have HE : Hid (∀ b, DnRet w B n q0 (.returned (.bool b)) wr) := Lib.hid fun b => ⟨b, p, i, rfl, hop.qis, HD.out, Ren.dn_leaf HD.out.dn hlf, HB.out⟩
      clear hop hlen
      go_wp2
      go_ret
      exact HE.out _
    · obtain ⟨a, ha⟩ : ∃ a : Nat, a = 2 * i + 1 := ⟨_, rfl⟩
      have ha2 : 2 * (i : Int) + 1 = (a : Int) := by omega
      have HA := Lib.hid ha
      have HA2 := Lib.hid ha2
      have han0 : a < n := by omega
      clear ha ha2
      go_upto_region 2 with (fail)
      go_cut [8] (fun s8 wx => s8 = .int .i64 (a : Int) ∧ wr = wx)
      case first =>
        go_wp2
        go_meet
        exact ⟨by rw [HA2.out], rfl⟩
      obtain ⟨rfl, rfl⟩ := hcut
      clear w1 w2
      have e1 : ¬ (n ≤ a) := by omega
      have wa : IntKind.i64.wrap (a : Int) = (a : Int) := IntWalk.i64_in _ (by omega)
      have w3 : IntKind.i64.wrap ((a : Int) + 1) = (a : Int) + 1 := IntWalk.i64_in _ (by omega)
      go_upto_region 6 with (fail)
      go_cut [33] (fun s33 wx => ∃ bb : Bool, s33 = .bool bb ∧ Hid (bb = (decide (a + 1 < n) && lessE (atE p (a + 1)) (atE p a))) ∧ ∃ d, wx = wr.drewN d)
      case first =>
        by_cases hcn : a + 1 < n
        · have m1 := met_less hop.cell
          have HLS0 := Less_c (some ⟨g, 0, none⟩) p cap (a + 1) a wr hop.prs (by omega) (by omega)
          rw [show (((a + 1 : Nat) : Int)) = (a : Int) + 1 by omega] at HLS0
          rw [hlen] at m1 HLS0
          have HLS := Lib.hid HLS0
          have HE : Hid (lessE (atE p (a + 1)) (atE p a) = (decide (a + 1 < n) && lessE (atE p (a + 1)) (atE p a))) := Lib.hid (by rw [decide_eq_true hcn, Bool.true_and])
          have e3 : decide ((a : Int) + 1 < (n : Int)) = true := decide_eq_true (by omega)
          clear HLS0 hop hlen
          go_wp2_with (go_at_call 64; refine HLS.out.mono ?_; rintro e w' ⟨rfl, d, rfl⟩)
          go_meet
          exact ⟨_, rfl, HE, d, rfl⟩
        · have HE : Hid (false = (decide (a + 1 < n) && lessE (atE p (a + 1)) (atE p a))) := Lib.hid (by rw [decide_eq_false hcn, Bool.false_and])
          have e3 : decide ((a : Int) + 1 < (n : Int)) = false := decide_eq_false (by omega)
          clear hop hlen
          go_wp2
          go_meet
          exact ⟨false, rfl, HE, 0, rfl⟩
      obtain ⟨bb, rfl, hbb, d, rfl⟩ := hcut
      go_upto_if 33 with (fail)
      go_cut [9] (fun s9 wx => ∃ j : Nat, s9 = .int .i64 (j : Int) ∧ Hid (Child p i n j) ∧ j < n ∧ wr.drewN d = wx)
      case first =>
        cases bb with
        | true =>
          have hh : a + 1 < n ∧ lessE (atE p (a + 1)) (atE p a) = true := by
            have h1 := hbb.out
            have h2 := h1.symm
            rw [Bool.and_eq_true, decide_eq_true_eq] at h2
            exact h2
          have hci : a + 1 = 2 * i + 2 := by have := HA.out; omega
          have HC : Hid (Child p i n (a + 1)) := Lib.hid (by rw [hci]; exact Ren.child_right (by omega) (by rw [← hci, ← HA.out]; exact hh.2))
          have hcn := hh.1
          clear hh hci hbb hop
          go_wp2
          go_meet
          exact ⟨a + 1, by go_num, HC, hcn, rfl⟩
        | false =>
          have HC : Hid (Child p i n a) := Lib.hid (by
            have h1 := hbb.out
            rw [HA.out] at h1 ⊢
            refine Ren.child_left (by have := HA.out; omega) ?_
            by_cases q : 2 * i + 1 + 1 < n
            · rw [decide_eq_true q, Bool.true_and] at h1
              exact .inr h1.symm
            · exact .inl (by omega))
          clear hbb hop
          go_wp2
          go_meet
          exact ⟨a, rfl, HC, han0, rfl⟩
      obtain ⟨j, rfl, hch, hjn, rfl⟩ := hcut
      have HCH := Lib.hid hch.out
      have hjp : j < p.length := by omega
      have hip : i < p.length := by omega
      have m1 := met_less (hop.drewN d).cell
      have m2 : ∀ e, (method 206 71 (.pointer (some ⟨B, 0, none⟩)) "Swap").run Try.prog ((wr.drewN d).drewN e) = .ok (67, .slice (some ⟨g, 0, none⟩) p.length cap) ((wr.drewN d).drewN e) := fun e => met_swap ((hop.drewN d).drewN e).cell
      have HLS0 := Less_c (some ⟨g, 0, none⟩) p cap j i (wr.drewN d) (hop.drewN d).prs hjp hip
      have HSW := Lib.hid (fun e => Swap_c p (B - 1) g cap cur i j ((wr.drewN d).drewN e) ((hop.drewN d).drewN e).o hip hjp)
      have HOPD := Lib.hid (fun e => (hop.drewN d).drewN e)
      have HBD := Lib.hid (fun e => HB.out.trans ((below_drewN (B - 1) wr d).trans (below_drewN (B - 1) (wr.drewN d) e)))
      clear hch hbb
      cases hlb : lessE (atE p j) (atE p i) with
      | false =>
        have HE : Hid (∀ b e, DnRet w B n q0 (.returned (.bool b)) ((wr.drewN d).drewN e)) := Lib.hid fun b e => ⟨b, p, i, rfl, (HOPD.out e).qis, HD.out, Ren.dn_stop HD.out.dn HCH.out hlb, HBD.out e⟩
        rw [hlb] at HLS0
        rw [hlen] at m1 HLS0
        have HLS := Lib.hid HLS0
        clear hop hlb HSW HLS0 m2 hlen hjp hip e1 w3 wa hlf han0
        generalize wr.drewN d = wd at *
        go_wp2_with (go_at_call 64; refine HLS.out.mono ?_; rintro e w' ⟨rfl, d2, rfl⟩)
        go_ret
        exact HE.out _ d2
      | true =>
        have hsl : (swapE p i j).length = p.length := Ren.swap_len p i j
        have HNX := Lib.hid (Ren.dnis_next HD.out HCH.out hlb)
        rw [hlb] at HLS0
        have HLS1 := HLS0
        have hsw := HSW.out
        rw [hlen] at m1 m2 HLS1 hsw
        have HLS := Lib.hid HLS1
        have HSW2 := Lib.hid hsw
        have HSL := Lib.hid hsl
        have hij : i < j := by have := HCH.out.2.2.1; have := HCH.out.1; unfold par at *; omega
        clear hop hlb HSW HLS0 HLS1 hsw hsl hlen hjp hip e1 w3 wa hlf han0
        generalize wr.drewN d = wd at *
        go_wp2_with (first | (go_at_call 64; refine HLS.out.mono ?_; rintro e w' ⟨rfl, d2, rfl⟩) | (go_at_call 67; refine (HSW2.out d2).mono ?_; rintro e w2 hsr; obtain ⟨rfl, _, _⟩ := id hsr; have HR := Lib.hid (qis_swap (HOPD.out d2) (by rw [HLEN.out]; exact hsr) HSL.out); clear hsr))
        go_roundw
        case rel =>
          obtain ⟨⟨cur', hop2⟩, hbl⟩ := HR.out
          exact ⟨j, swapE p i j, rfl, Nat.le_of_lt hjn, hop2.qis, HNX.out, (HBD.out d2).trans hbl⟩
        case measure => simp [intOf]; omega
end Go.Proofs.Ytnijfndpefkoeaa
