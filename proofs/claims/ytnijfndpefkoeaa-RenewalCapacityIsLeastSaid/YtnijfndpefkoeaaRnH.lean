import Derived.Test.YtnijfndpefkoeaaRnT
namespace Go.Proofs.Ytnijfndpefkoeaa
open Go Go.Proofs Go.RowKit
open Ren (E lessE atE swapE UpAt DnAt DnIs Heap Child par)
set_option maxHeartbeats 6400000
set_option maxRecDepth 100000
theorem below_drewN (B : Nat) (w : World) (d : Nat) : Below B w (w.drewN d) := ⟨rfl, rfl, rfl, Nat.le_refl _, fun _ _ => rfl⟩
/-- What up leaves. -/
def UpRet (w : World) (B : Nat) (q : List E) (e : Ending) (w' : World) : Prop := e = .returned (.tuple #[]) ∧ ∃ q2, QIs w' B q2 ∧ q2.Perm q ∧ Heap q2 q2.length ∧ Below (B - 1) w w'
theorem up_c (q : List E) (B j : Nat) (w : World) (h : QIs w B q) (hu : UpAt q j) (hl : q.length ≤ 101) : Calls Try.prog 42 #[.iface 71 (.pointer (some ⟨B, 0, none⟩)), .int .i64 (j : Int)] w (UpRet w B q) := by
  go_enter Try.func42, Try.ntmps42
  go_wp2
  go_loopw [1] (fun t1 wx => ∃ (j : Nat) (p : List E), t1 = .int .i64 (j : Int) ∧ QIs wx B p ∧ UpAt p j ∧ p.Perm q ∧ Below (B - 1) w wx) (fun t1 _ => (intOf t1).toNat)
  case atStart => exact ⟨j, q, rfl, h, hu, List.Perm.refl _, Below.refl (B - 1) w⟩
  case round =>
    obtain ⟨j, p, rfl, hq, hu, hp, hb⟩ := hrel
    have hlen : p.length = q.length := hp.length_eq
    have hj := hu.lt
    obtain ⟨g, cap, cur, hop⟩ := qis_open hq (by omega)
    have HU := Lib.hid hu
    have HP := Lib.hid hp
    have HB := Lib.hid hb
    have HQ := Lib.hid hop
    clear hq hu hp hb
    have w1 : IntKind.i64.wrap ((j : Int) - 1) = (j : Int) - 1 := IntWalk.i64_in _ (by omega)
    by_cases h0 : j = 0
    · subst h0
      have w2 : ((0 : Int) - 1).tdiv 2 = 0 := by decide
      have HE : Hid (UpRet w B q (.returned (.tuple #[])) wr) := Lib.hid ⟨rfl, p, hop.qis, HP.out, Ren.up_zero HU.out, HB.out⟩
      clear hop
      go_wp2
      exact bodyPost_end (results_none Try.results42 _ _ _) rfl HE.out
    · obtain ⟨i, hi⟩ : ∃ i, par j = i := ⟨_, rfl⟩
      have hij : i < j := by unfold par at hi; omega
      have w2 : ((j : Int) - 1).tdiv 2 = (i : Int) := by
        rw [Int.tdiv_eq_ediv_of_nonneg (by omega), ← hi]
        unfold par
        omega
      have wi : IntKind.i64.wrap (i : Int) = (i : Int) := IntWalk.i64_in _ (by omega)
      have e1 : ((i : Int) == (j : Int)) = false := by simp; omega
      have m1 := met_less hop.cell
      have m2 : ∀ d, (method 206 71 (.pointer (some ⟨B, 0, none⟩)) "Swap").run Try.prog (wr.drewN d) = .ok (67, .slice (some ⟨g, 0, none⟩) p.length cap) (wr.drewN d) := fun d => met_swap (hop.drewN d).cell
      have HLS := Lib.hid (Less_c (some ⟨g, 0, none⟩) p cap j i wr hop.prs (by omega) (by omega))
      have HSW := Lib.hid (fun d => Swap_c p (B - 1) g cap cur i j (wr.drewN d) (hop.drewN d).o (by omega) (by omega))
      cases hlb : lessE (atE p j) (atE p i) with
      | false =>
        have HE : Hid (∀ d, UpRet w B q (.returned (.tuple #[])) (wr.drewN d)) := Lib.hid fun d => ⟨rfl, p, (hop.drewN d).qis, HP.out, Ren.up_stop HU.out (by rw [hi]; exact hlb), HB.out.trans ⟨rfl, rfl, rfl, Nat.le_refl _, fun _ _ => rfl⟩⟩
        rw [hlb] at HLS
        obtain ⟨n, hn⟩ : ∃ n, n = p.length := ⟨_, rfl⟩
        rw [← hn] at m1 m2 HLS
        clear hop hlb HSW hn hlen hj hi
        go_wp2_with (go_at_call 64; refine HLS.out.mono ?_; rintro e w' ⟨rfl, d, rfl⟩)
        exact bodyPost_end (results_none Try.results42 _ _ _) rfl (HE.out d)
      | true =>
        have hsl : (swapE p i j).length = p.length := Ren.swap_len p i j
        have HUS := Lib.hid (Ren.up_swap HU.out (by omega) (by rw [hi]; exact hlb))
        have HPS := Lib.hid ((Ren.swap_perm (q := p) (i := i) (j := j) (by omega) (by omega)).trans HP.out)
        rw [hi] at HUS
        rw [hlb] at HLS
        have HOPD := Lib.hid (fun d => hop.drewN d)
        have HLEN := Lib.hid hsl
        obtain ⟨n, hn⟩ : ∃ n, n = p.length := ⟨_, rfl⟩
        have HN := Lib.hid hn
        have hsw := HSW.out
        rw [← hn] at m1 m2 HLS hsw
        have HSW2 := Lib.hid hsw
        clear hop hlb HSW hn hlen hj hi hsl hsw
        go_wp2_with (first | (go_at_call 64; refine HLS.out.mono ?_; rintro e w' ⟨rfl, d, rfl⟩) | (go_at_call 67; refine (HSW2.out d).mono ?_; rintro e w2 hsr; obtain ⟨rfl, _, _⟩ := id hsr; have HR := Lib.hid (qis_swap (HOPD.out d) (by rw [← HN.out]; exact hsr) HLEN.out); clear hsr))
        go_roundw
        case rel =>
          obtain ⟨⟨cur', hop2⟩, hbl⟩ := HR.out
          exact ⟨i, swapE p i j, rfl, hop2.qis, HUS.out, HPS.out, HB.out.trans ((below_drewN (B - 1) wr d).trans hbl)⟩
        case measure => simp [intOf]; omega
end Go.Proofs.Ytnijfndpefkoeaa
