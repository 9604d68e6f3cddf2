import Derived.Test.YtpooedfchjpndaaDoorStk
import Derived.Test.YtpooedfchjpndaaDoorStepL
namespace Go.Proofs.YtpooedfchjpndaaDoor
open Go Go.Proofs Go.RowKit
set_option maxHeartbeats 3200000
set_option maxRecDepth 100000
def IRet (w : World) (n : Int) (e : Ending) (w' : World) : Prop := e = .returned (.int .i64 n) ∧ Ext w w'
theorem IRet.mk {w w' : World} {a b : Int} (h : a = b) (x : Ext w w') : IRet w b (.returned (.int .i64 a)) w' := ⟨by rw [h], x⟩
theorem idx_sizes {op : Int} (h0 : 0 ≤ op) (h1 : op < 24) (w : World) : (Instr.index 9 (.string { data := #[48, 50, 48, 48, 48, 48, 48, 48, 48, 48, 48, 48, 48, 48, 48, 48, 49, 49, 49, 48, 48, 48, 48, 48] }) (.int .i64 op)).run Tryd.prog w = .ok (.int .u8 (48 + sizeOp op)) w := by
  obtain rfl | rfl | rfl | rfl | rfl | rfl | rfl | rfl | rfl | rfl | rfl | rfl | rfl | rfl | rfl | rfl | rfl | rfl | rfl | rfl | rfl | rfl | rfl | rfl : op = 0 ∨ op = 1 ∨ op = 2 ∨ op = 3 ∨ op = 4 ∨ op = 5 ∨ op = 6 ∨ op = 7 ∨ op = 8 ∨ op = 9 ∨ op = 10 ∨ op = 11 ∨ op = 12 ∨ op = 13 ∨ op = 14 ∨ op = 15 ∨ op = 16 ∨ op = 17 ∨ op = 18 ∨ op = 19 ∨ op = 20 ∨ op = 21 ∨ op = 22 ∨ op = 23 := by omega
  all_goals kernel_rfl
theorem idx_takes {op : Int} (h0 : 0 ≤ op) (h1 : op < 24) (w : World) : (Instr.index 9 (.string { data := #[48, 48, 49, 49, 50, 50, 50, 50, 50, 50, 50, 50, 50, 50, 50, 50, 48, 49, 48, 48, 49, 50, 48, 49] }) (.int .i64 op)).run Tryd.prog w = .ok (.int .u8 (48 + takesOf op)) w := by
  obtain rfl | rfl | rfl | rfl | rfl | rfl | rfl | rfl | rfl | rfl | rfl | rfl | rfl | rfl | rfl | rfl | rfl | rfl | rfl | rfl | rfl | rfl | rfl | rfl : op = 0 ∨ op = 1 ∨ op = 2 ∨ op = 3 ∨ op = 4 ∨ op = 5 ∨ op = 6 ∨ op = 7 ∨ op = 8 ∨ op = 9 ∨ op = 10 ∨ op = 11 ∨ op = 12 ∨ op = 13 ∨ op = 14 ∨ op = 15 ∨ op = 16 ∨ op = 17 ∨ op = 18 ∨ op = 19 ∨ op = 20 ∨ op = 21 ∨ op = 22 ∨ op = 23 := by omega
  all_goals kernel_rfl
theorem idx_leaves {op : Int} (h0 : 0 ≤ op) (h1 : op < 24) (w : World) : (Instr.index 9 (.string { data := #[48, 49, 50, 48, 50, 51, 49, 49, 49, 49, 49, 49, 49, 49, 49, 49, 48, 48, 48, 48, 49, 48, 49, 48] }) (.int .i64 op)).run Tryd.prog w = .ok (.int .u8 (48 + leavesOf op)) w := by
  obtain rfl | rfl | rfl | rfl | rfl | rfl | rfl | rfl | rfl | rfl | rfl | rfl | rfl | rfl | rfl | rfl | rfl | rfl | rfl | rfl | rfl | rfl | rfl | rfl : op = 0 ∨ op = 1 ∨ op = 2 ∨ op = 3 ∨ op = 4 ∨ op = 5 ∨ op = 6 ∨ op = 7 ∨ op = 8 ∨ op = 9 ∨ op = 10 ∨ op = 11 ∨ op = 12 ∨ op = 13 ∨ op = 14 ∨ op = 15 ∨ op = 16 ∨ op = 17 ∨ op = 18 ∨ op = 19 ∨ op = 20 ∨ op = 21 ∨ op = 22 ∨ op = 23 := by omega
  all_goals kernel_rfl
theorem stopped_c (cs : Array Value) (s : St) (w : World) (h : StIs w cs s) (hok : OkSt s) : Calls Tryd.prog 31 #[.agg cs] w (IRet w (stopOf s)) := by
  have HH := Lib.hid h
  have HOK := Lib.hid hok
  clear h hok
  obtain ⟨r, hr⟩ : ∃ r, stopOf s = r := ⟨_, rfl⟩
  rw [hr]
  have HR := Lib.hid hr
  clear hr
  go_enter Tryd.func31, Tryd.ntmps31
  go_upto_region 0 with (fail)
  go_cut [1, 2] (fun s1 s2 wx => s1 = .pointer (some ⟨w.heap.size, 0, none⟩) ∧ s2 = .int .i64 0 ∧ Var wx w.heap.size cs s ∧ Ext w wx)
  case first =>
    go_wp2_with fail
    go_meet
    exact ⟨rfl, rfl, ⟨heap_alloc_new w _, HH.out.ext ((Ext.refl w).alloc _)⟩, (Ext.refl w).alloc _⟩
  case rest =>
    obtain ⟨rfl, rfl, hv, hx⟩ := hcut
    obtain ⟨A0, c0, e0, _, _, _, s0⟩ := hv.st.image
    obtain ⟨A2, c2, e2, _, _, _, s2⟩ := hv.st.data
    obtain ⟨A3, c3, e3, _, _, _, _⟩ := hv.st.ret
    obtain ⟨A6, c6, e6, _, _, _, _⟩ := hv.st.output
    have k0 : wc.cell? ⟨w.heap.size, 0, none⟩ = some (.slice A0 s.image.length c0) := (blk_cell hv.g 0).trans e0
    have k1 : wc.cell? ⟨w.heap.size, 1, none⟩ = some (.int .i64 s.at_) := (blk_cell hv.g 1).trans hv.st.at_
    have k2 : wc.cell? ⟨w.heap.size, 2, none⟩ = some (.slice A2 s.data.length c2) := (blk_cell hv.g 2).trans e2
    have k3 : wc.cell? ⟨w.heap.size, 3, none⟩ = some (.slice A3 s.ret.length c3) := (blk_cell hv.g 3).trans e3
    have k6 : wc.cell? ⟨w.heap.size, 37, none⟩ = some (.slice A6 s.output.length c6) := (blk_cell hv.g 37).trans e6
    have HX := Lib.hid hx
    have il := HOK.out.il
    have dl := HOK.out.dl
    have rl := HOK.out.rl
    have ol := HOK.out.ol
    have a0 := HOK.out.at0
    have a1 := HOK.out.at1
    have HB := Lib.hid (fun i => byte_range HOK.out i)
    have HD := Lib.hid HOK.out.wf.data
    obtain ⟨p, hp⟩ : ∃ p : Nat, s.at_ = p := ⟨s.at_.toNat, by omega⟩
    have HP := Lib.hid hp
    rw [hp] at k1 a0 a1
    have HS0 := Lib.hid s0
    have HS2 := Lib.hid s2
    obtain ⟨L, hL⟩ : ∃ L : Nat, s.image.length = L := ⟨_, rfl⟩
    obtain ⟨N, hN⟩ : ∃ N : Nat, s.data.length = N := ⟨_, rfl⟩
    obtain ⟨R, hR⟩ : ∃ R : Nat, s.ret.length = R := ⟨_, rfl⟩
    obtain ⟨O, hO⟩ : ∃ O : Nat, s.output.length = O := ⟨_, rfl⟩
    rw [hL] at k0 il
    rw [hN] at k2 dl
    rw [hR] at k3 rl
    rw [hO] at k6 ol
    have HL := Lib.hid hL
    have HN := Lib.hid hN
    have HRR := Lib.hid hR
    have HO := Lib.hid hO
    clear hv hx e0 e2 e3 e6 hp s0 s2 hL hN hR hO
    by_cases q1 : L ≤ p
    · have HF : Hid (3 = r) := by
        show 3 = r
        rw [← HR.out]; unfold stopOf; rw [if_pos (by rw [HL.out, HP.out]; omega)]
      go_wp2_with fail
      go_ret
      exact IRet.mk HF.out HX.out
    have hpl : p < s.image.length := by rw [HL.out]; omega
    obtain ⟨b, o, x, rfl, hx, kx⟩ := HS0.out.at2 hpl
    clear hpl
    have hxe : opOf s = x := by unfold opOf; rw [HP.out]; show s.image[p]?.getD 0 = x; rw [hx.out]; rfl
    have hxb := HB.out p
    rw [hx.out] at hxb
    simp only [Option.getD_some] at hxb
    obtain ⟨x0, x1⟩ := hxb
    have HXE := Lib.hid hxe
    clear hxe
    by_cases q2 : 24 ≤ x
    · have HF : Hid (2 = r) := by
        show 2 = r
        rw [← HR.out]; unfold stopOf; rw [if_neg (by rw [HL.out, HP.out]; omega), if_pos (by rw [HXE.out]; exact q2)]
      go_wp2_with fail
      go_ret
      exact IRet.mk HF.out HX.out
    have HST : Hid (r = obstF (takesOf x) (leavesOf x) x ((p : Int) + 1 + sizeOp x) L N R (topF s.data 0) O) := by
      show r = _
      have := stop_obst (s := s) (by rw [HL.out, HP.out]; omega) (by rw [HXE.out]; exact q2)
      rw [HR.out, HXE.out, HL.out, HN.out, HRR.out, HO.out, HP.out] at this
      exact this
    have i1 := idx_sizes (op := x) x0 (by omega)
    have i2 := idx_takes (op := x) x0 (by omega)
    have i3 := idx_leaves (op := x) x0 (by omega)
    have tr := tabs_range (op := x) x0 (by omega)
    have sr := sizeOp_range x
    have HT0 : Hid (x = 20 ∨ x = 21 ∨ x = 9 ∨ x = 10 → 1 ≤ takesOf x) := by
      show _ → _
      rintro (rfl | rfl | rfl | rfl) <;> decide
    obtain ⟨t, ht⟩ : ∃ t, takesOf x = t := ⟨_, rfl⟩
    obtain ⟨lv, hlv⟩ : ∃ lv, leavesOf x = lv := ⟨_, rfl⟩
    obtain ⟨z, hz⟩ : ∃ z, sizeOp x = z := ⟨_, rfl⟩
    rw [ht, hlv, hz] at HST
    rw [ht] at i2 HT0 tr
    rw [hlv] at i3 tr
    rw [hz] at i1 sr
    clear ht hlv hz
    obtain ⟨⟨t0, t1⟩, v0, v1⟩ := tr
    obtain ⟨z0, z1⟩ := sr
    by_cases q3 : (L : Int) ≤ (p : Int) + z
    · have HF : Hid (3 = r) := by
        show 3 = r
        rw [HST.out]; unfold obstF; rw [if_pos (by omega)]
      go_wp2_with fail
      go_quiet (fail)
      go_wp2_with fail
      go_ret
      exact IRet.mk HF.out (by first | exact HX.out.drewN _ | exact (HX.out.drewN _).drewN _)
    by_cases d1 : (N : Int) < t
    · have HF : Hid (4 = r) := by
        show 4 = r
        rw [HST.out]; unfold obstF; rw [if_neg (by omega), if_pos (Or.inl d1)]
      have dd : decide ((N : Int) < t) = true := by simpa using d1
      go_wp2_with fail
      go_quiet (fail)
      go_wp2_with fail
      go_ret
      exact IRet.mk HF.out (by first | exact HX.out.drewN _ | exact (HX.out.drewN _).drewN _)
    have dd : decide ((N : Int) < t) = false := by simpa using d1
    by_cases d2 : x = 19 ∧ R = 0
    · have HF : Hid (4 = r) := by
        show 4 = r
        rw [HST.out]; unfold obstF; rw [if_neg (by omega), if_pos (Or.inr d2)]
      have d2' : (x == 19) = true := by simpa using d2.1
      have d3' : ((R : Int) == 0) = true := by simp; omega
      clear d2
      go_wp2_with fail
      go_quiet (fail)
      go_wp2_with fail
      go_ret
      exact IRet.mk HF.out (by first | exact HX.out.drewN _ | exact (HX.out.drewN _).drewN _)
    have HRET : Hid (((x == 19) = false) ∨ ((x == 19) = true ∧ ((R : Int) == 0) = false)) := by
      show _ ∨ _
      by_cases x = 19
      · right; exact ⟨by simpa, by simp; omega⟩
      · left; simpa
    by_cases d4 : 16 < (N : Int) - t + lv
    · have HF : Hid (5 = r) := by
        show 5 = r
        rw [HST.out]; unfold obstF; rw [if_neg (by omega), if_neg (by omega), if_pos (Or.inl d4)]
      have dx : decide (16 < (N : Int) - (48 + t) + (48 + lv)) = true := by simp; omega
      rcases HRET.out with g1 | ⟨g1, g2⟩
      all_goals (
        go_wp2_with fail
        go_quiet (fail)
        go_wp2_with fail
        go_quiet (fail)
        go_wp2_with fail
        go_ret
        exact IRet.mk HF.out (by first | exact HX.out.drewN _ | exact (HX.out.drewN _).drewN _))
    have dx : decide (16 < (N : Int) - (48 + t) + (48 + lv)) = false := by simp; omega
    by_cases d5 : x = 18 ∧ R = 8
    · have HF : Hid (5 = r) := by
        show 5 = r
        rw [HST.out]; unfold obstF; rw [if_neg (by omega), if_neg (by omega), if_pos (Or.inr (by omega))]
      have d5' : (x == 18) = true := by simpa using d5.1
      have d6' : ((R : Int) == 8) = true := by simp; omega
      have d7' : (x == 19) = false := by simp; omega
      clear d5
      go_wp2_with fail
      go_quiet (fail)
      go_wp2_with fail
      go_quiet (fail)
      go_wp2_with fail
      go_ret
      exact IRet.mk HF.out (by first | exact HX.out.drewN _ | exact (HX.out.drewN _).drewN _)
    have HCALL : Hid (((x == 18) = false) ∨ ((x == 18) = true ∧ ((R : Int) == 8) = false)) := by
      show _ ∨ _
      by_cases x = 18
      · right; exact ⟨by simpa, by simp; omega⟩
      · left; simpa
    have HF : Hid ((if (x = 20 ∨ x = 21) ∧ 32 ≤ topF s.data 0 then 3 else if (x = 9 ∨ x = 10) ∧ topF s.data 0 = 0 then 6 else if x = 23 ∧ 1000 ≤ O then 7 else 0) = r) := by
      show _ = r
      have u1 : ¬ (L : Int) < (p : Int) + 1 + z := by omega
      have u2 : ¬ ((N : Int) < t ∨ (x = 19 ∧ R = 0)) := by omega
      have u3 : ¬ (16 < (N : Int) - t + lv ∨ (x = 18 ∧ 8 ≤ R)) := by omega
      rw [HST.out]; unfold obstF; rw [if_neg u1, if_neg u2, if_neg u3]
    clear HST
    by_cases q7 : 1 ≤ N
    · have hi : N - 1 < s.data.length := by rw [HN.out]; omega
      obtain ⟨b2, o2, y, rfl, hy, ky⟩ := HS2.out.at2 hi
      have hty : topF s.data 0 = y := by
        unfold topF
        rw [if_pos (by omega), HN.out, Nat.sub_zero, hy.out]; rfl
      rw [hty] at HF
      have hyb : 0 ≤ y ∧ y < 65536 := HD.out y (List.mem_of_getElem? hy.out)
      obtain ⟨y0, y1⟩ := hyb
      have w1 : ((N : Int) - 1).toNat = N - 1 := by omega
      have w2 : 0 ≤ (N : Int) - 1 := by omega
      have w3 : (N : Int) - 1 < N := by omega
      clear hty hi
      rcases HRET.out with g1 | ⟨g1, g2⟩
      all_goals rcases HCALL.out with g3 | ⟨g3, g4⟩
      all_goals clear HRET HCALL HT0 d2 d5
      all_goals (
        go_wp2_with fail
        go_quiet (fail)
        go_wp2_with fail
        go_quiet (fail)
        go_wp2_with fail)
      all_goals go_ret
      all_goals refine IRet.mk ?_ (by first | exact HX.out.drewN _ | exact (HX.out.drewN _).drewN _)
      all_goals rw [← HF.out]
      all_goals simp only [beq_iff_eq, beq_eq_false_iff_ne, ne_eq] at *
      all_goals repeat' split
      all_goals omega
    · have z1 : (x == 20) = false := by simp; intro e; have := HT0.out (by omega); omega
      have z2 : (x == 21) = false := by simp; intro e; have := HT0.out (by omega); omega
      have z3 : (x == 9) = false := by simp; intro e; have := HT0.out (by omega); omega
      have z4 : (x == 10) = false := by simp; intro e; have := HT0.out (by omega); omega
      rcases HRET.out with g1 | ⟨g1, g2⟩
      all_goals rcases HCALL.out with g3 | ⟨g3, g4⟩
      all_goals clear HRET HCALL HT0 d2 d5
      all_goals (
        go_wp2_with fail
        go_quiet (fail)
        go_wp2_with fail
        go_quiet (fail)
        go_wp2_with fail)
      all_goals go_ret
      all_goals refine IRet.mk ?_ (by first | exact HX.out.drewN _ | exact (HX.out.drewN _).drewN _)
      all_goals rw [← HF.out]
      all_goals simp only [beq_iff_eq, beq_eq_false_iff_ne, ne_eq] at *
      all_goals repeat' split
      all_goals omega
end Go.Proofs.YtpooedfchjpndaaDoor
