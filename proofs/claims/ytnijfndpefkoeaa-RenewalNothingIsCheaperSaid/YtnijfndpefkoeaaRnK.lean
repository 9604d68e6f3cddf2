import Derived.Test.YtnijfndpefkoeaaRnI
namespace Go.Proofs.Ytnijfndpefkoeaa
open Go Go.Proofs Go.RowKit
open Ren (E lessE atE swapE UpAt DnAt DnIs Heap Child par)
set_option maxHeartbeats 6400000
set_option maxRecDepth 100000
/-- heap.Push and heap.Pop. -/
theorem hpush_c (q : List E) (B : Nat) (x : E) (w : World) (h : QIs w B q) (hh : Heap q q.length) (hq : q.length ≤ 100) : Calls Try.prog 34 #[.iface 71 (.pointer (some ⟨B, 0, none⟩)), .iface 70 (.agg #[.int .i64 x.1, .int .i64 x.2])] w (UpRet w B (q ++ [x])) := by
  have m1 := met_push B w
  have HP := Lib.hid (Push_c q B x w h hq)
  have HU := Lib.hid (Ren.up_push hh x)
  have hlen : (q ++ [x]).length = q.length + 1 := by simp
  have HLEN := Lib.hid hlen
  clear hlen h
  go_enter Try.func34, Try.ntmps34
  go_wp2_with fail
  refine HP.out.mono ?_
  rintro e w1 ⟨rfl, hq1, hb1⟩
  obtain ⟨g, cap, cur, hop⟩ := qis_open hq1 (by rw [HLEN.out]; omega)
  have m2 := met_len hop.cell
  rw [HLEN.out] at m2
  have HUC := Lib.hid (up_c (q ++ [x]) B q.length w1 hq1 HU.out (by rw [HLEN.out]; omega))
  have HB1 := Lib.hid hb1
  have wl : IntKind.i64.wrap (((q.length + 1 : Nat) : Int) - 1) = (q.length : Int) := by rw [show (((q.length + 1 : Nat) : Int) - 1) = (q.length : Int) by omega]; exact IntWalk.i64_in _ (by omega)
  have HLC := Lib.hid (Len_c (some ⟨g, 0, none⟩) (q.length + 1) cap w1)
  have wq : IntKind.i64.wrap (q.length : Int) = (q.length : Int) := IntWalk.i64_in _ (by omega)
  obtain ⟨n, hn⟩ : ∃ n, n = q.length := ⟨_, rfl⟩
  rw [← hn] at m2 wl wq HUC HLC
  clear hq1 hb1 hop hn hq hh m1
  clear HP HU HLEN
  go_wp2_with (first | (go_at_call 35; refine HLC.out.mono ?_; rintro e w' ⟨rfl, rfl⟩) | (go_at_call 42; refine HUC.out.mono ?_; rintro e w2 ⟨rfl, q2, u1, u2, u3, u4⟩; have HF : Hid (UpRet w B (q ++ [x]) (.returned (.tuple #[])) w2) := Lib.hid ⟨rfl, q2, u1, u2, u3, HB1.out.trans u4⟩; clear u1 u2 u3 u4))
  exact bodyPost_end (results_none Try.results34 _ _ _) rfl HF.out
def HpRet (w : World) (B n : Nat) (q : List E) (e : Ending) (w' : World) : Prop := ∃ q2 i, e = .returned (.iface 70 (.agg #[.int .i64 (atE q2 n).1, .int .i64 (atE q2 n).2])) ∧ QIs w' B (q2.take n) ∧ DnIs q q2 i n ∧ Heap q2 n ∧ Below (B - 1) w w'
theorem hpop_c (q : List E) (B n : Nat) (w : World) (h : QIs w B q) (hh : Heap q q.length) (hq : q.length = n + 1) (hn : n ≤ 100) : Calls Try.prog 36 #[.iface 71 (.pointer (some ⟨B, 0, none⟩))] w (HpRet w B n q) := by
  obtain ⟨g, cap, cur, hop⟩ := qis_open h (by omega)
  have m1 := met_len hop.cell
  have m2 := met_swap hop.cell
  have HSW0 := Swap_c q (B - 1) g cap cur 0 n w hop.o (by omega) (by omega)
  have HOP := Lib.hid hop
  have HSL := Lib.hid (Ren.swap_len q 0 n)
  have HD := Lib.hid (Ren.dnis_zero hq hh)
  rw [hq] at m1 m2 HSW0
  have HSW := Lib.hid HSW0
  have HQ := Lib.hid hq
  have HLC := Lib.hid (Len_c (some ⟨g, 0, none⟩) (n + 1) cap w)
  have wl : IntKind.i64.wrap (((n + 1 : Nat) : Int) - 1) = (n : Int) := by rw [show (((n + 1 : Nat) : Int) - 1) = (n : Int) by omega]; exact IntWalk.i64_in _ (by omega)
  clear h hh hop HSW0 hq
  go_enter Try.func36, Try.ntmps36
  go_upto_region 3 with (first | (go_at_call 35; refine HLC.out.mono ?_; rintro e w' ⟨rfl, rfl⟩) | (go_at_call 67; refine HSW.out.mono ?_; rintro e w1 hsr; obtain ⟨rfl, _, _⟩ := id hsr; have HR := Lib.hid (qis_swap HOP.out (by rw [HQ.out]; exact hsr) HSL.out); clear hsr))
  obtain ⟨⟨cur', hop2⟩, hbl⟩ := HR.out
  have HB := Lib.hid hbl
  have HDC := Lib.hid (down_c q (swapE q 0 n) B n w1 hop2.qis HD.out hn)
  clear hop2 hbl m1 m2 wl
  go_wp2_with fail
  refine HDC.out.mono ?_
  rintro e w2 ⟨b, q2, i, rfl, d1, d2, d3, d4⟩
  have HD1 := Lib.hid d1
  have HD2 := Lib.hid d2
  have HD3 := Lib.hid d3
  have HB2 := Lib.hid (HB.out.trans d4)
  have m3 := met_pop B w2
  have HPC := Lib.hid (Pop_c q2 n B w2 d1 d2.len hn)
  clear d1 d2 d3 d4
  go_wp2_with fail
  refine HPC.out.mono ?_
  rintro e w3 ⟨rfl, p1, p2⟩
  have HF : Hid (HpRet w B n q (.returned (.iface 70 (.agg #[.int .i64 (atE q2 n).1, .int .i64 (atE q2 n).2]))) w3) := Lib.hid ⟨q2, i, rfl, p1, HD2.out, HD3.out, HB2.out.trans p2⟩
  clear p1 p2
  go_wp2
  go_ret
  exact HF.out
end Go.Proofs.Ytnijfndpefkoeaa
