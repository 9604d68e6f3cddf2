import Derived.Test.YtbaahbpianingaaDoorMg10
import Derived.Deep.DeepCutAuto
import Derived.Outline
namespace Go.Proofs.YtbaahbpianingaaDoor
open Go Go.Proofs Go.RowKit
open Acc (Dk red five)
set_option maxHeartbeats 4000000
set_option maxRecDepth 100000
theorem step_op9 {w : World} {bm : Nat} {s : Dk} {cs : Array Value} {vo : Value} (h : MachIs w bm s cs vo) (ok : OkSt s) (i r a : Nat) (hi : i < 100) (hat : s.at_ = i) (W : Int) (hw : Acc.wordAt s i = W) (w0 : 0 ≤ W) (w1 : W < 20000) (hop : W / 100 % 100 = 9) (hr : W % 100 = r) (ha : a < 100)
    (hA : W < 10000 ∧ r = a ∨ 10000 ≤ W ∧ (r : Int) + s.x = a) : Calls Tryd.prog 44 #[.pointer (some ⟨bm, 0, none⟩)] w (EffPost w bm (Acc.effF { s with at_ := s.at_ + 1 } 9 a)) := by
  have HH := Lib.hid h
  have hlt := h.lt
  have k0 : w.cell? ⟨bm, 100, none⟩ = some (.int .i64 (i : Int)) := by rw [h.cAt, hat]
  have f0 := h.frozen 100
  have kW : w.cell? ⟨bm, i, none⟩ = some (.int .i64 W) := by have := h.cWord hi; rw [← hw]; simpa [Acc.wordAt] using this
  have kX := h.cX
  have i0 : (0 : Int) ≤ (i : Int) := by omega
  have i1 : (i : Int) < 100 := by omega
  have hx5 := Acc.five_iff.1 ok.ok.x
  have hne : ((i : Int) == 100) = false := by simp; omega
  have HAT := Lib.hid hat
  have HW := Lib.hid hw
  have HA := Lib.hid hA
  have HOK := Lib.hid ok
  have HX := Lib.hid hx5
  clear h hat hw hA ok
  go_enter Tryd.func44, Tryd.ntmps44
  go_wp2
  go_region_held3 (fun w' => w'.cell? ⟨bm, 100, none⟩ = some (.int .i64 (i : Int)) ∧ w'.cell? ⟨bm, i, none⟩ = some (.int .i64 W)) (go_keep) (fail)
  go_upto_if 46 with (fail)
  go_cut [4] (fun s4 wx => s4 = .int .i64 (a : Int) ∧ wx = w.drew)
  case first =>
    rcases HA.out with ⟨c1, rfl⟩ | ⟨c1, c2⟩
    · go_wp2
      go_meet
      exact ⟨rfl, rfl⟩
    · go_wp2
      go_meet
      exact ⟨rfl, rfl⟩
  case rest =>
    obtain ⟨rfl, rfl⟩ := hcut
    have a0 : (0 : Int) ≤ (a : Int) := by omega
    have a1 : (a : Int) < 100 := by omega
    go_wp2
    go_quiet (fail)
    go_wp2_with fail
    have HM1 : Hid (MachIs ((w.drewN (1 + nq)).setCell ⟨bm, 100, none⟩ (.int .i64 ((i : Int) + 1))) bm { s with at_ := s.at_ + 1 } _ vo) := Lib.hid (by rw [HAT.out]; exact (HH.out.drewN (1 + nq)).setAt ((i : Int) + 1))
    have HB1 := Lib.hid (Below.setCell (p := ⟨bm, 100, none⟩) (Below.mono ((Ext.refl w).drewN (1 + nq)) (Nat.le_of_lt hlt)) (Nat.le_refl _) (.int .i64 ((i : Int) + 1)))
    refine (effs_c bm _).mono ?_
    rintro e w2 ⟨g, rfl, hg2, hx2, hc2⟩
    have HM2 := Lib.hid (HM1.out.ext hx2)
    have HB2 := Lib.hid (Below.trans HB1.out (Below.mono hx2 (Nat.le_of_lt HM1.out.lt)))
    have HC2 := Lib.hid hc2
    have hidx : ∀ W' : World, (Instr.index 101 (.agg (effA g)) (.int .i64 9)).run Tryd.prog W' = .ok (.func (.func 105) #[] #[.pointer (some ⟨g, 0, none⟩)]) W' := fun _ => by kernel_rfl
    clear hx2 hc2 hg2
    go_wp2_with fail
    refine (eff9 HM2.out HC2.out (ok_next HOK.out hi HAT.out) a ha).mono ?_
    rintro e w3 ⟨rfl, cs3, vo3, hm3, hb3⟩
    have HM3 := Lib.hid hm3
    have HB3 := Lib.hid (HB2.out.trans hb3)
    clear hm3 hb3
    go_wp2_with fail
    refine bodyPost_end (results_none Tryd.results44 _ _ _) rfl ?_
    exact ⟨rfl, cs3, vo3, HM3.out, HB3.out⟩
theorem step_op10 {w : World} {bm : Nat} {s : Dk} {cs : Array Value} {vo : Value} (h : MachIs w bm s cs vo) (ok : OkSt s) (i r a : Nat) (hi : i < 100) (hat : s.at_ = i) (W : Int) (hw : Acc.wordAt s i = W) (w0 : 0 ≤ W) (w1 : W < 20000) (hop : W / 100 % 100 = 10) (hr : W % 100 = r) (ha : a < 100)
    (hA : W < 10000 ∧ r = a ∨ 10000 ≤ W ∧ (r : Int) + s.x = a) : Calls Tryd.prog 44 #[.pointer (some ⟨bm, 0, none⟩)] w (EffPost w bm (Acc.effF { s with at_ := s.at_ + 1 } 10 a)) := by
  have HH := Lib.hid h
  have hlt := h.lt
  have k0 : w.cell? ⟨bm, 100, none⟩ = some (.int .i64 (i : Int)) := by rw [h.cAt, hat]
  have f0 := h.frozen 100
  have kW : w.cell? ⟨bm, i, none⟩ = some (.int .i64 W) := by have := h.cWord hi; rw [← hw]; simpa [Acc.wordAt] using this
  have kX := h.cX
  have i0 : (0 : Int) ≤ (i : Int) := by omega
  have i1 : (i : Int) < 100 := by omega
  have hx5 := Acc.five_iff.1 ok.ok.x
  have hne : ((i : Int) == 100) = false := by simp; omega
  have HAT := Lib.hid hat
  have HW := Lib.hid hw
  have HA := Lib.hid hA
  have HOK := Lib.hid ok
  have HX := Lib.hid hx5
  clear h hat hw hA ok
  go_enter Tryd.func44, Tryd.ntmps44
  go_wp2
  go_region_held3 (fun w' => w'.cell? ⟨bm, 100, none⟩ = some (.int .i64 (i : Int)) ∧ w'.cell? ⟨bm, i, none⟩ = some (.int .i64 W)) (go_keep) (fail)
  go_upto_if 46 with (fail)
  go_cut [4] (fun s4 wx => s4 = .int .i64 (a : Int) ∧ wx = w.drew)
  case first =>
    rcases HA.out with ⟨c1, rfl⟩ | ⟨c1, c2⟩
    · go_wp2
      go_meet
      exact ⟨rfl, rfl⟩
    · go_wp2
      go_meet
      exact ⟨rfl, rfl⟩
  case rest =>
    obtain ⟨rfl, rfl⟩ := hcut
    have a0 : (0 : Int) ≤ (a : Int) := by omega
    have a1 : (a : Int) < 100 := by omega
    go_wp2
    go_quiet (fail)
    go_wp2_with fail
    have HM1 : Hid (MachIs ((w.drewN (1 + nq)).setCell ⟨bm, 100, none⟩ (.int .i64 ((i : Int) + 1))) bm { s with at_ := s.at_ + 1 } _ vo) := Lib.hid (by rw [HAT.out]; exact (HH.out.drewN (1 + nq)).setAt ((i : Int) + 1))
    have HB1 := Lib.hid (Below.setCell (p := ⟨bm, 100, none⟩) (Below.mono ((Ext.refl w).drewN (1 + nq)) (Nat.le_of_lt hlt)) (Nat.le_refl _) (.int .i64 ((i : Int) + 1)))
    refine (effs_c bm _).mono ?_
    rintro e w2 ⟨g, rfl, hg2, hx2, hc2⟩
    have HM2 := Lib.hid (HM1.out.ext hx2)
    have HB2 := Lib.hid (Below.trans HB1.out (Below.mono hx2 (Nat.le_of_lt HM1.out.lt)))
    have HC2 := Lib.hid hc2
    have hidx : ∀ W' : World, (Instr.index 101 (.agg (effA g)) (.int .i64 10)).run Tryd.prog W' = .ok (.func (.func 106) #[] #[.pointer (some ⟨g, 0, none⟩)]) W' := fun _ => by kernel_rfl
    clear hx2 hc2 hg2
    go_wp2_with fail
    refine (eff10 HM2.out HC2.out (ok_next HOK.out hi HAT.out) a ha).mono ?_
    rintro e w3 ⟨rfl, cs3, vo3, hm3, hb3⟩
    have HM3 := Lib.hid hm3
    have HB3 := Lib.hid (HB2.out.trans hb3)
    clear hm3 hb3
    go_wp2_with fail
    refine bodyPost_end (results_none Tryd.results44 _ _ _) rfl ?_
    exact ⟨rfl, cs3, vo3, HM3.out, HB3.out⟩
theorem step_op11 {w : World} {bm : Nat} {s : Dk} {cs : Array Value} {vo : Value} (h : MachIs w bm s cs vo) (ok : OkSt s) (i r a : Nat) (hi : i < 100) (hat : s.at_ = i) (W : Int) (hw : Acc.wordAt s i = W) (w0 : 0 ≤ W) (w1 : W < 20000) (hop : W / 100 % 100 = 11) (hr : W % 100 = r) (ha : a < 100)
    (hA : W < 10000 ∧ r = a ∨ 10000 ≤ W ∧ (r : Int) + s.x = a) : Calls Tryd.prog 44 #[.pointer (some ⟨bm, 0, none⟩)] w (EffPost w bm (Acc.effF { s with at_ := s.at_ + 1 } 11 a)) := by
  have HH := Lib.hid h
  have hlt := h.lt
  have k0 : w.cell? ⟨bm, 100, none⟩ = some (.int .i64 (i : Int)) := by rw [h.cAt, hat]
  have f0 := h.frozen 100
  have kW : w.cell? ⟨bm, i, none⟩ = some (.int .i64 W) := by have := h.cWord hi; rw [← hw]; simpa [Acc.wordAt] using this
  have kX := h.cX
  have i0 : (0 : Int) ≤ (i : Int) := by omega
  have i1 : (i : Int) < 100 := by omega
  have hx5 := Acc.five_iff.1 ok.ok.x
  have hne : ((i : Int) == 100) = false := by simp; omega
  have HAT := Lib.hid hat
  have HW := Lib.hid hw
  have HA := Lib.hid hA
  have HOK := Lib.hid ok
  have HX := Lib.hid hx5
  clear h hat hw hA ok
  go_enter Tryd.func44, Tryd.ntmps44
  go_wp2
  go_region_held3 (fun w' => w'.cell? ⟨bm, 100, none⟩ = some (.int .i64 (i : Int)) ∧ w'.cell? ⟨bm, i, none⟩ = some (.int .i64 W)) (go_keep) (fail)
  go_upto_if 46 with (fail)
  go_cut [4] (fun s4 wx => s4 = .int .i64 (a : Int) ∧ wx = w.drew)
  case first =>
    rcases HA.out with ⟨c1, rfl⟩ | ⟨c1, c2⟩
    · go_wp2
      go_meet
      exact ⟨rfl, rfl⟩
    · go_wp2
      go_meet
      exact ⟨rfl, rfl⟩
  case rest =>
    obtain ⟨rfl, rfl⟩ := hcut
    have a0 : (0 : Int) ≤ (a : Int) := by omega
    have a1 : (a : Int) < 100 := by omega
    go_wp2
    go_quiet (fail)
    go_wp2_with fail
    have HM1 : Hid (MachIs ((w.drewN (1 + nq)).setCell ⟨bm, 100, none⟩ (.int .i64 ((i : Int) + 1))) bm { s with at_ := s.at_ + 1 } _ vo) := Lib.hid (by rw [HAT.out]; exact (HH.out.drewN (1 + nq)).setAt ((i : Int) + 1))
    have HB1 := Lib.hid (Below.setCell (p := ⟨bm, 100, none⟩) (Below.mono ((Ext.refl w).drewN (1 + nq)) (Nat.le_of_lt hlt)) (Nat.le_refl _) (.int .i64 ((i : Int) + 1)))
    refine (effs_c bm _).mono ?_
    rintro e w2 ⟨g, rfl, hg2, hx2, hc2⟩
    have HM2 := Lib.hid (HM1.out.ext hx2)
    have HB2 := Lib.hid (Below.trans HB1.out (Below.mono hx2 (Nat.le_of_lt HM1.out.lt)))
    have HC2 := Lib.hid hc2
    have hidx : ∀ W' : World, (Instr.index 101 (.agg (effA g)) (.int .i64 11)).run Tryd.prog W' = .ok (.func (.func 107) #[] #[.pointer (some ⟨g, 0, none⟩)]) W' := fun _ => by kernel_rfl
    clear hx2 hc2 hg2
    go_wp2_with fail
    refine (eff11 HM2.out HC2.out a ha).mono ?_
    rintro e w3 ⟨rfl, cs3, vo3, hm3, hb3⟩
    have HM3 := Lib.hid hm3
    have HB3 := Lib.hid (HB2.out.trans hb3)
    clear hm3 hb3
    go_wp2_with fail
    refine bodyPost_end (results_none Tryd.results44 _ _ _) rfl ?_
    exact ⟨rfl, cs3, vo3, HM3.out, HB3.out⟩
theorem step_op12 {w : World} {bm : Nat} {s : Dk} {cs : Array Value} {vo : Value} (h : MachIs w bm s cs vo) (ok : OkSt s) (i r a : Nat) (hi : i < 100) (hat : s.at_ = i) (W : Int) (hw : Acc.wordAt s i = W) (w0 : 0 ≤ W) (w1 : W < 20000) (hop : W / 100 % 100 = 12) (hr : W % 100 = r) (ha : a < 100)
    (hA : W < 10000 ∧ r = a ∨ 10000 ≤ W ∧ (r : Int) + s.x = a) : Calls Tryd.prog 44 #[.pointer (some ⟨bm, 0, none⟩)] w (EffPost w bm (Acc.effF { s with at_ := s.at_ + 1 } 12 a)) := by
  have HH := Lib.hid h
  have hlt := h.lt
  have k0 : w.cell? ⟨bm, 100, none⟩ = some (.int .i64 (i : Int)) := by rw [h.cAt, hat]
  have f0 := h.frozen 100
  have kW : w.cell? ⟨bm, i, none⟩ = some (.int .i64 W) := by have := h.cWord hi; rw [← hw]; simpa [Acc.wordAt] using this
  have kX := h.cX
  have i0 : (0 : Int) ≤ (i : Int) := by omega
  have i1 : (i : Int) < 100 := by omega
  have hx5 := Acc.five_iff.1 ok.ok.x
  have hne : ((i : Int) == 100) = false := by simp; omega
  have HAT := Lib.hid hat
  have HW := Lib.hid hw
  have HA := Lib.hid hA
  have HOK := Lib.hid ok
  have HX := Lib.hid hx5
  clear h hat hw hA ok
  go_enter Tryd.func44, Tryd.ntmps44
  go_wp2
  go_region_held3 (fun w' => w'.cell? ⟨bm, 100, none⟩ = some (.int .i64 (i : Int)) ∧ w'.cell? ⟨bm, i, none⟩ = some (.int .i64 W)) (go_keep) (fail)
  go_upto_if 46 with (fail)
  go_cut [4] (fun s4 wx => s4 = .int .i64 (a : Int) ∧ wx = w.drew)
  case first =>
    rcases HA.out with ⟨c1, rfl⟩ | ⟨c1, c2⟩
    · go_wp2
      go_meet
      exact ⟨rfl, rfl⟩
    · go_wp2
      go_meet
      exact ⟨rfl, rfl⟩
  case rest =>
    obtain ⟨rfl, rfl⟩ := hcut
    have a0 : (0 : Int) ≤ (a : Int) := by omega
    have a1 : (a : Int) < 100 := by omega
    go_wp2
    go_quiet (fail)
    go_wp2_with fail
    have HM1 : Hid (MachIs ((w.drewN (1 + nq)).setCell ⟨bm, 100, none⟩ (.int .i64 ((i : Int) + 1))) bm { s with at_ := s.at_ + 1 } _ vo) := Lib.hid (by rw [HAT.out]; exact (HH.out.drewN (1 + nq)).setAt ((i : Int) + 1))
    have HB1 := Lib.hid (Below.setCell (p := ⟨bm, 100, none⟩) (Below.mono ((Ext.refl w).drewN (1 + nq)) (Nat.le_of_lt hlt)) (Nat.le_refl _) (.int .i64 ((i : Int) + 1)))
    refine (effs_c bm _).mono ?_
    rintro e w2 ⟨g, rfl, hg2, hx2, hc2⟩
    have HM2 := Lib.hid (HM1.out.ext hx2)
    have HB2 := Lib.hid (Below.trans HB1.out (Below.mono hx2 (Nat.le_of_lt HM1.out.lt)))
    have HC2 := Lib.hid hc2
    have hidx : ∀ W' : World, (Instr.index 101 (.agg (effA g)) (.int .i64 12)).run Tryd.prog W' = .ok (.func (.func 108) #[] #[.pointer (some ⟨g, 0, none⟩)]) W' := fun _ => by kernel_rfl
    clear hx2 hc2 hg2
    go_wp2_with fail
    refine (eff12 HM2.out HC2.out (ok_next HOK.out hi HAT.out) a ha).mono ?_
    rintro e w3 ⟨rfl, cs3, vo3, hm3, hb3⟩
    have HM3 := Lib.hid hm3
    have HB3 := Lib.hid (HB2.out.trans hb3)
    clear hm3 hb3
    go_wp2_with fail
    refine bodyPost_end (results_none Tryd.results44 _ _ _) rfl ?_
    exact ⟨rfl, cs3, vo3, HM3.out, HB3.out⟩
end Go.Proofs.YtbaahbpianingaaDoor
namespace Go.Proofs.YtbaahbpianingaaDoor
open Go Go.Proofs Go.RowKit
open Acc (Dk red five)
set_option maxHeartbeats 4000000
set_option maxRecDepth 100000
theorem step_op13 {w : World} {bm : Nat} {s : Dk} {cs : Array Value} {vo : Value} (h : MachIs w bm s cs vo) (ok : OkSt s) (i r a : Nat) (hi : i < 100) (hat : s.at_ = i) (W : Int) (hw : Acc.wordAt s i = W) (w0 : 0 ≤ W) (w1 : W < 20000) (hop : W / 100 % 100 = 13) (hr : W % 100 = r) (ha : a < 100)
    (hA : W < 10000 ∧ r = a ∨ 10000 ≤ W ∧ (r : Int) + s.x = a) : Calls Tryd.prog 44 #[.pointer (some ⟨bm, 0, none⟩)] w (EffPost w bm (Acc.effF { s with at_ := s.at_ + 1 } 13 a)) := by
  have HH := Lib.hid h
  have hlt := h.lt
  have k0 : w.cell? ⟨bm, 100, none⟩ = some (.int .i64 (i : Int)) := by rw [h.cAt, hat]
  have f0 := h.frozen 100
  have kW : w.cell? ⟨bm, i, none⟩ = some (.int .i64 W) := by have := h.cWord hi; rw [← hw]; simpa [Acc.wordAt] using this
  have kX := h.cX
  have i0 : (0 : Int) ≤ (i : Int) := by omega
  have i1 : (i : Int) < 100 := by omega
  have hx5 := Acc.five_iff.1 ok.ok.x
  have hne : ((i : Int) == 100) = false := by simp; omega
  have HAT := Lib.hid hat
  have HW := Lib.hid hw
  have HA := Lib.hid hA
  have HOK := Lib.hid ok
  have HX := Lib.hid hx5
  clear h hat hw hA ok
  go_enter Tryd.func44, Tryd.ntmps44
  go_wp2
  go_region_held3 (fun w' => w'.cell? ⟨bm, 100, none⟩ = some (.int .i64 (i : Int)) ∧ w'.cell? ⟨bm, i, none⟩ = some (.int .i64 W)) (go_keep) (fail)
  go_upto_if 46 with (fail)
  go_cut [4] (fun s4 wx => s4 = .int .i64 (a : Int) ∧ wx = w.drew)
  case first =>
    rcases HA.out with ⟨c1, rfl⟩ | ⟨c1, c2⟩
    · go_wp2
      go_meet
      exact ⟨rfl, rfl⟩
    · go_wp2
      go_meet
      exact ⟨rfl, rfl⟩
  case rest =>
    obtain ⟨rfl, rfl⟩ := hcut
    have a0 : (0 : Int) ≤ (a : Int) := by omega
    have a1 : (a : Int) < 100 := by omega
    go_wp2
    go_quiet (fail)
    go_wp2_with fail
    have HM1 : Hid (MachIs ((w.drewN (1 + nq)).setCell ⟨bm, 100, none⟩ (.int .i64 ((i : Int) + 1))) bm { s with at_ := s.at_ + 1 } _ vo) := Lib.hid (by rw [HAT.out]; exact (HH.out.drewN (1 + nq)).setAt ((i : Int) + 1))
    have HB1 := Lib.hid (Below.setCell (p := ⟨bm, 100, none⟩) (Below.mono ((Ext.refl w).drewN (1 + nq)) (Nat.le_of_lt hlt)) (Nat.le_refl _) (.int .i64 ((i : Int) + 1)))
    refine (effs_c bm _).mono ?_
    rintro e w2 ⟨g, rfl, hg2, hx2, hc2⟩
    have HM2 := Lib.hid (HM1.out.ext hx2)
    have HB2 := Lib.hid (Below.trans HB1.out (Below.mono hx2 (Nat.le_of_lt HM1.out.lt)))
    have HC2 := Lib.hid hc2
    have hidx : ∀ W' : World, (Instr.index 101 (.agg (effA g)) (.int .i64 13)).run Tryd.prog W' = .ok (.func (.func 109) #[] #[.pointer (some ⟨g, 0, none⟩)]) W' := fun _ => by kernel_rfl
    clear hx2 hc2 hg2
    go_wp2_with fail
    refine (eff13 HM2.out HC2.out (ok_next HOK.out hi HAT.out) a ha).mono ?_
    rintro e w3 ⟨rfl, cs3, vo3, hm3, hb3⟩
    have HM3 := Lib.hid hm3
    have HB3 := Lib.hid (HB2.out.trans hb3)
    clear hm3 hb3
    go_wp2_with fail
    refine bodyPost_end (results_none Tryd.results44 _ _ _) rfl ?_
    exact ⟨rfl, cs3, vo3, HM3.out, HB3.out⟩
theorem step_op15 {w : World} {bm : Nat} {s : Dk} {cs : Array Value} {vo : Value} (h : MachIs w bm s cs vo) (ok : OkSt s) (i r a : Nat) (hi : i < 100) (hat : s.at_ = i) (W : Int) (hw : Acc.wordAt s i = W) (w0 : 0 ≤ W) (w1 : W < 20000) (hop : W / 100 % 100 = 15) (hr : W % 100 = r) (ha : a < 100)
    (hA : W < 10000 ∧ r = a ∨ 10000 ≤ W ∧ (r : Int) + s.x = a) : Calls Tryd.prog 44 #[.pointer (some ⟨bm, 0, none⟩)] w (EffPost w bm (Acc.effF { s with at_ := s.at_ + 1 } 15 a)) := by
  have HH := Lib.hid h
  have hlt := h.lt
  have k0 : w.cell? ⟨bm, 100, none⟩ = some (.int .i64 (i : Int)) := by rw [h.cAt, hat]
  have f0 := h.frozen 100
  have kW : w.cell? ⟨bm, i, none⟩ = some (.int .i64 W) := by have := h.cWord hi; rw [← hw]; simpa [Acc.wordAt] using this
  have kX := h.cX
  have i0 : (0 : Int) ≤ (i : Int) := by omega
  have i1 : (i : Int) < 100 := by omega
  have hx5 := Acc.five_iff.1 ok.ok.x
  have hne : ((i : Int) == 100) = false := by simp; omega
  have HAT := Lib.hid hat
  have HW := Lib.hid hw
  have HA := Lib.hid hA
  have HOK := Lib.hid ok
  have HX := Lib.hid hx5
  clear h hat hw hA ok
  go_enter Tryd.func44, Tryd.ntmps44
  go_wp2
  go_region_held3 (fun w' => w'.cell? ⟨bm, 100, none⟩ = some (.int .i64 (i : Int)) ∧ w'.cell? ⟨bm, i, none⟩ = some (.int .i64 W)) (go_keep) (fail)
  go_upto_if 46 with (fail)
  go_cut [4] (fun s4 wx => s4 = .int .i64 (a : Int) ∧ wx = w.drew)
  case first =>
    rcases HA.out with ⟨c1, rfl⟩ | ⟨c1, c2⟩
    · go_wp2
      go_meet
      exact ⟨rfl, rfl⟩
    · go_wp2
      go_meet
      exact ⟨rfl, rfl⟩
  case rest =>
    obtain ⟨rfl, rfl⟩ := hcut
    have a0 : (0 : Int) ≤ (a : Int) := by omega
    have a1 : (a : Int) < 100 := by omega
    go_wp2
    go_quiet (fail)
    go_wp2_with fail
    have HM1 : Hid (MachIs ((w.drewN (1 + nq)).setCell ⟨bm, 100, none⟩ (.int .i64 ((i : Int) + 1))) bm { s with at_ := s.at_ + 1 } _ vo) := Lib.hid (by rw [HAT.out]; exact (HH.out.drewN (1 + nq)).setAt ((i : Int) + 1))
    have HB1 := Lib.hid (Below.setCell (p := ⟨bm, 100, none⟩) (Below.mono ((Ext.refl w).drewN (1 + nq)) (Nat.le_of_lt hlt)) (Nat.le_refl _) (.int .i64 ((i : Int) + 1)))
    refine (effs_c bm _).mono ?_
    rintro e w2 ⟨g, rfl, hg2, hx2, hc2⟩
    have HM2 := Lib.hid (HM1.out.ext hx2)
    have HB2 := Lib.hid (Below.trans HB1.out (Below.mono hx2 (Nat.le_of_lt HM1.out.lt)))
    have HC2 := Lib.hid hc2
    have hidx : ∀ W' : World, (Instr.index 101 (.agg (effA g)) (.int .i64 15)).run Tryd.prog W' = .ok (.func (.func 112) #[] #[.pointer (some ⟨g, 0, none⟩)]) W' := fun _ => by kernel_rfl
    clear hx2 hc2 hg2
    go_wp2_with fail
    refine (eff15 HM2.out HC2.out (ok_next HOK.out hi HAT.out) a ha).mono ?_
    rintro e w3 ⟨rfl, cs3, vo3, hm3, hb3⟩
    have HM3 := Lib.hid hm3
    have HB3 := Lib.hid (HB2.out.trans hb3)
    clear hm3 hb3
    go_wp2_with fail
    refine bodyPost_end (results_none Tryd.results44 _ _ _) rfl ?_
    exact ⟨rfl, cs3, vo3, HM3.out, HB3.out⟩
theorem step_op16 {w : World} {bm : Nat} {s : Dk} {cs : Array Value} {vo : Value} (h : MachIs w bm s cs vo) (ok : OkSt s) (i r a : Nat) (hi : i < 100) (hat : s.at_ = i) (W : Int) (hw : Acc.wordAt s i = W) (w0 : 0 ≤ W) (w1 : W < 20000) (hop : W / 100 % 100 = 16) (hr : W % 100 = r) (ha : a < 100)
    (hA : W < 10000 ∧ r = a ∨ 10000 ≤ W ∧ (r : Int) + s.x = a) : Calls Tryd.prog 44 #[.pointer (some ⟨bm, 0, none⟩)] w (EffPost w bm (Acc.effF { s with at_ := s.at_ + 1 } 16 a)) := by
  have HH := Lib.hid h
  have hlt := h.lt
  have k0 : w.cell? ⟨bm, 100, none⟩ = some (.int .i64 (i : Int)) := by rw [h.cAt, hat]
  have f0 := h.frozen 100
  have kW : w.cell? ⟨bm, i, none⟩ = some (.int .i64 W) := by have := h.cWord hi; rw [← hw]; simpa [Acc.wordAt] using this
  have kX := h.cX
  have i0 : (0 : Int) ≤ (i : Int) := by omega
  have i1 : (i : Int) < 100 := by omega
  have hx5 := Acc.five_iff.1 ok.ok.x
  have hne : ((i : Int) == 100) = false := by simp; omega
  have HAT := Lib.hid hat
  have HW := Lib.hid hw
  have HA := Lib.hid hA
  have HOK := Lib.hid ok
  have HX := Lib.hid hx5
  clear h hat hw hA ok
  go_enter Tryd.func44, Tryd.ntmps44
  go_wp2
  go_region_held3 (fun w' => w'.cell? ⟨bm, 100, none⟩ = some (.int .i64 (i : Int)) ∧ w'.cell? ⟨bm, i, none⟩ = some (.int .i64 W)) (go_keep) (fail)
  go_upto_if 46 with (fail)
  go_cut [4] (fun s4 wx => s4 = .int .i64 (a : Int) ∧ wx = w.drew)
  case first =>
    rcases HA.out with ⟨c1, rfl⟩ | ⟨c1, c2⟩
    · go_wp2
      go_meet
      exact ⟨rfl, rfl⟩
    · go_wp2
      go_meet
      exact ⟨rfl, rfl⟩
  case rest =>
    obtain ⟨rfl, rfl⟩ := hcut
    have a0 : (0 : Int) ≤ (a : Int) := by omega
    have a1 : (a : Int) < 100 := by omega
    go_wp2
    go_quiet (fail)
    go_wp2_with fail
    have HM1 : Hid (MachIs ((w.drewN (1 + nq)).setCell ⟨bm, 100, none⟩ (.int .i64 ((i : Int) + 1))) bm { s with at_ := s.at_ + 1 } _ vo) := Lib.hid (by rw [HAT.out]; exact (HH.out.drewN (1 + nq)).setAt ((i : Int) + 1))
    have HB1 := Lib.hid (Below.setCell (p := ⟨bm, 100, none⟩) (Below.mono ((Ext.refl w).drewN (1 + nq)) (Nat.le_of_lt hlt)) (Nat.le_refl _) (.int .i64 ((i : Int) + 1)))
    refine (effs_c bm _).mono ?_
    rintro e w2 ⟨g, rfl, hg2, hx2, hc2⟩
    have HM2 := Lib.hid (HM1.out.ext hx2)
    have HB2 := Lib.hid (Below.trans HB1.out (Below.mono hx2 (Nat.le_of_lt HM1.out.lt)))
    have HC2 := Lib.hid hc2
    have hidx : ∀ W' : World, (Instr.index 101 (.agg (effA g)) (.int .i64 16)).run Tryd.prog W' = .ok (.func (.func 114) #[] #[.pointer (some ⟨g, 0, none⟩)]) W' := fun _ => by kernel_rfl
    clear hx2 hc2 hg2
    go_wp2_with fail
    refine (eff16 HM2.out HC2.out (ok_next HOK.out hi HAT.out) a ha).mono ?_
    rintro e w3 ⟨rfl, cs3, vo3, hm3, hb3⟩
    have HM3 := Lib.hid hm3
    have HB3 := Lib.hid (HB2.out.trans hb3)
    clear hm3 hb3
    go_wp2_with fail
    refine bodyPost_end (results_none Tryd.results44 _ _ _) rfl ?_
    exact ⟨rfl, cs3, vo3, HM3.out, HB3.out⟩
theorem step_op17 {w : World} {bm : Nat} {s : Dk} {cs : Array Value} {vo : Value} (h : MachIs w bm s cs vo) (ok : OkSt s) (i r a : Nat) (hi : i < 100) (hat : s.at_ = i) (W : Int) (hw : Acc.wordAt s i = W) (w0 : 0 ≤ W) (w1 : W < 20000) (hop : W / 100 % 100 = 17) (hr : W % 100 = r) (ha : a < 100)
    (hA : W < 10000 ∧ r = a ∨ 10000 ≤ W ∧ (r : Int) + s.x = a) : Calls Tryd.prog 44 #[.pointer (some ⟨bm, 0, none⟩)] w (EffPost w bm (Acc.effF { s with at_ := s.at_ + 1 } 17 a)) := by
  have HH := Lib.hid h
  have hlt := h.lt
  have k0 : w.cell? ⟨bm, 100, none⟩ = some (.int .i64 (i : Int)) := by rw [h.cAt, hat]
  have f0 := h.frozen 100
  have kW : w.cell? ⟨bm, i, none⟩ = some (.int .i64 W) := by have := h.cWord hi; rw [← hw]; simpa [Acc.wordAt] using this
  have kX := h.cX
  have i0 : (0 : Int) ≤ (i : Int) := by omega
  have i1 : (i : Int) < 100 := by omega
  have hx5 := Acc.five_iff.1 ok.ok.x
  have hne : ((i : Int) == 100) = false := by simp; omega
  have HAT := Lib.hid hat
  have HW := Lib.hid hw
  have HA := Lib.hid hA
  have HOK := Lib.hid ok
  have HX := Lib.hid hx5
  clear h hat hw hA ok
  go_enter Tryd.func44, Tryd.ntmps44
  go_wp2
  go_region_held3 (fun w' => w'.cell? ⟨bm, 100, none⟩ = some (.int .i64 (i : Int)) ∧ w'.cell? ⟨bm, i, none⟩ = some (.int .i64 W)) (go_keep) (fail)
  go_upto_if 46 with (fail)
  go_cut [4] (fun s4 wx => s4 = .int .i64 (a : Int) ∧ wx = w.drew)
  case first =>
    rcases HA.out with ⟨c1, rfl⟩ | ⟨c1, c2⟩
    · go_wp2
      go_meet
      exact ⟨rfl, rfl⟩
    · go_wp2
      go_meet
      exact ⟨rfl, rfl⟩
  case rest =>
    obtain ⟨rfl, rfl⟩ := hcut
    have a0 : (0 : Int) ≤ (a : Int) := by omega
    have a1 : (a : Int) < 100 := by omega
    go_wp2
    go_quiet (fail)
    go_wp2_with fail
    have HM1 : Hid (MachIs ((w.drewN (1 + nq)).setCell ⟨bm, 100, none⟩ (.int .i64 ((i : Int) + 1))) bm { s with at_ := s.at_ + 1 } _ vo) := Lib.hid (by rw [HAT.out]; exact (HH.out.drewN (1 + nq)).setAt ((i : Int) + 1))
    have HB1 := Lib.hid (Below.setCell (p := ⟨bm, 100, none⟩) (Below.mono ((Ext.refl w).drewN (1 + nq)) (Nat.le_of_lt hlt)) (Nat.le_refl _) (.int .i64 ((i : Int) + 1)))
    refine (effs_c bm _).mono ?_
    rintro e w2 ⟨g, rfl, hg2, hx2, hc2⟩
    have HM2 := Lib.hid (HM1.out.ext hx2)
    have HB2 := Lib.hid (Below.trans HB1.out (Below.mono hx2 (Nat.le_of_lt HM1.out.lt)))
    have HC2 := Lib.hid hc2
    have hidx : ∀ W' : World, (Instr.index 101 (.agg (effA g)) (.int .i64 17)).run Tryd.prog W' = .ok (.func (.func 115) #[] #[.pointer (some ⟨g, 0, none⟩)]) W' := fun _ => by kernel_rfl
    clear hx2 hc2 hg2
    go_wp2_with fail
    refine (eff17 HM2.out HC2.out (ok_next HOK.out hi HAT.out) a ha).mono ?_
    rintro e w3 ⟨rfl, cs3, vo3, hm3, hb3⟩
    have HM3 := Lib.hid hm3
    have HB3 := Lib.hid (HB2.out.trans hb3)
    clear hm3 hb3
    go_wp2_with fail
    refine bodyPost_end (results_none Tryd.results44 _ _ _) rfl ?_
    exact ⟨rfl, cs3, vo3, HM3.out, HB3.out⟩
end Go.Proofs.YtbaahbpianingaaDoor
namespace Go.Proofs.YtbaahbpianingaaDoor
open Go Go.Proofs Go.RowKit
open Acc (Dk red five)
set_option maxHeartbeats 4000000
set_option maxRecDepth 100000
theorem step_op6 {w : World} {bm : Nat} {s : Dk} {cs : Array Value} {vo : Value} (h : MachIs w bm s cs vo) (ok : OkSt s) (i r a : Nat) (hi : i < 100) (hat : s.at_ = i) (W : Int) (hw : Acc.wordAt s i = W) (w0 : 0 ≤ W) (w1 : W < 20000) (hop : W / 100 % 100 = 6) (hr : W % 100 = r) (ha : a < 100)
    (hA : W < 10000 ∧ r = a ∨ 10000 ≤ W ∧ (r : Int) + s.x = a) (hn0 : Acc.wordAt s a ≠ 0) : Calls Tryd.prog 44 #[.pointer (some ⟨bm, 0, none⟩)] w (EffPost w bm (Acc.effF { s with at_ := s.at_ + 1 } 6 a)) := by
  have HH := Lib.hid h
  have hlt := h.lt
  have k0 : w.cell? ⟨bm, 100, none⟩ = some (.int .i64 (i : Int)) := by rw [h.cAt, hat]
  have f0 := h.frozen 100
  have kW : w.cell? ⟨bm, i, none⟩ = some (.int .i64 W) := by have := h.cWord hi; rw [← hw]; simpa [Acc.wordAt] using this
  have kX := h.cX
  have i0 : (0 : Int) ≤ (i : Int) := by omega
  have i1 : (i : Int) < 100 := by omega
  have hx5 := Acc.five_iff.1 ok.ok.x
  have hne : ((i : Int) == 100) = false := by simp; omega
  have HAT := Lib.hid hat
  have HW := Lib.hid hw
  have HA := Lib.hid hA
  have HOK := Lib.hid ok
  have HX := Lib.hid hx5
  clear h hat hw hA ok
  have HN0 := Lib.hid hn0
  have kA : w.cell? ⟨bm, a, none⟩ = some (.int .i64 (Acc.wordAt s a)) := by have := HH.out.cWord ha; simpa [Acc.wordAt] using this
  have hy0 : (Acc.wordAt s a == 0) = false := by simpa using hn0
  generalize Acc.wordAt s (a : Int) = y at kA hy0
  go_enter Tryd.func44, Tryd.ntmps44
  go_wp2
  go_region_held3 (fun w' => w'.cell? ⟨bm, 100, none⟩ = some (.int .i64 (i : Int)) ∧ w'.cell? ⟨bm, i, none⟩ = some (.int .i64 W)) (go_keep) (fail)
  go_upto_if 46 with (fail)
  go_cut [4] (fun s4 wx => s4 = .int .i64 (a : Int) ∧ wx = w.drew)
  case first =>
    rcases HA.out with ⟨c1, rfl⟩ | ⟨c1, c2⟩
    · go_wp2
      go_meet
      exact ⟨rfl, rfl⟩
    · go_wp2
      go_meet
      exact ⟨rfl, rfl⟩
  case rest =>
    obtain ⟨rfl, rfl⟩ := hcut
    have a0 : (0 : Int) ≤ (a : Int) := by omega
    have a1 : (a : Int) < 100 := by omega
    go_wp2
    go_quiet (fail)
    go_wp2_with fail
    have HM1 : Hid (MachIs ((w.drewN (1 + nq)).setCell ⟨bm, 100, none⟩ (.int .i64 ((i : Int) + 1))) bm { s with at_ := s.at_ + 1 } _ vo) := Lib.hid (by rw [HAT.out]; exact (HH.out.drewN (1 + nq)).setAt ((i : Int) + 1))
    have HB1 := Lib.hid (Below.setCell (p := ⟨bm, 100, none⟩) (Below.mono ((Ext.refl w).drewN (1 + nq)) (Nat.le_of_lt hlt)) (Nat.le_refl _) (.int .i64 ((i : Int) + 1)))
    refine (effs_c bm _).mono ?_
    rintro e w2 ⟨g, rfl, hg2, hx2, hc2⟩
    have HM2 := Lib.hid (HM1.out.ext hx2)
    have HB2 := Lib.hid (Below.trans HB1.out (Below.mono hx2 (Nat.le_of_lt HM1.out.lt)))
    have HC2 := Lib.hid hc2
    have hidx : ∀ W' : World, (Instr.index 101 (.agg (effA g)) (.int .i64 6)).run Tryd.prog W' = .ok (.func (.func 101) #[] #[.pointer (some ⟨g, 0, none⟩)]) W' := fun _ => by kernel_rfl
    clear hx2 hc2 hg2
    go_wp2_with fail
    refine (eff6 HM2.out HC2.out (ok_next HOK.out hi HAT.out) a ha (by show Acc.wordAt s a ≠ 0; exact HN0.out)).mono ?_
    rintro e w3 ⟨rfl, cs3, vo3, hm3, hb3⟩
    have HM3 := Lib.hid hm3
    have HB3 := Lib.hid (HB2.out.trans hb3)
    clear hm3 hb3
    go_wp2_with fail
    refine bodyPost_end (results_none Tryd.results44 _ _ _) rfl ?_
    exact ⟨rfl, cs3, vo3, HM3.out, HB3.out⟩
theorem step_op14 {w : World} {bm : Nat} {s : Dk} {cs : Array Value} {vo : Value} (h : MachIs w bm s cs vo) (ok : OkSt s) (ht : Tabs w) (hb8 : 2 ≤ bm) (i r a : Nat) (hi : i < 100) (hat : s.at_ = i) (W : Int) (hw : Acc.wordAt s i = W) (w0 : 0 ≤ W) (w1 : W < 20000) (hop : W / 100 % 100 = 14) (hr : W % 100 = r) (ha : a < 100)
    (hA : W < 10000 ∧ r = a ∨ 10000 ≤ W ∧ (r : Int) + s.x = a) (hol : s.output.length + (Acc.lineF s.a).length ≤ 1000) : Calls Tryd.prog 44 #[.pointer (some ⟨bm, 0, none⟩)] w (EffPost w bm (Acc.effF { s with at_ := s.at_ + 1 } 14 a)) := by
  have HH := Lib.hid h
  have hlt := h.lt
  have k0 : w.cell? ⟨bm, 100, none⟩ = some (.int .i64 (i : Int)) := by rw [h.cAt, hat]
  have f0 := h.frozen 100
  have kW : w.cell? ⟨bm, i, none⟩ = some (.int .i64 W) := by have := h.cWord hi; rw [← hw]; simpa [Acc.wordAt] using this
  have kX := h.cX
  have i0 : (0 : Int) ≤ (i : Int) := by omega
  have i1 : (i : Int) < 100 := by omega
  have hx5 := Acc.five_iff.1 ok.ok.x
  have hne : ((i : Int) == 100) = false := by simp; omega
  have HAT := Lib.hid hat
  have HW := Lib.hid hw
  have HA := Lib.hid hA
  have HT := Lib.hid ht
  have HOK := Lib.hid ok
  have HX := Lib.hid hx5
  clear h hat hw hA ht ok
  have HL := Lib.hid (fun W (hW : MachIs W bm s cs vo) (hT : Tabs W) => line_c hW HOK.out.ok.a hT)
  have hsz := strOfNums_size (Acc.lineF s.a)
  have hl7 : s.output.length + (strOfNums (Acc.lineF s.a)).size ≤ 1000 := by rw [hsz]; exact hol
  have HOL := Lib.hid (show s.output.length ≤ 1000 by omega)
  have kO : w.cell? ⟨bm, 106, none⟩ = some vo := by rw [HH.out.cell, HH.out.output]
  obtain ⟨A, c, hvo, -⟩ := own_sl HH.out.outputo
  subst hvo
  clear hsz hol
  generalize strOfNums (Acc.lineF s.a) = ls at *
  have hwr : IntKind.i64.wrap ((s.output.length : Int) + (ls.size : Int)) = (s.output.length : Int) + (ls.size : Int) := IntWalk.i64_in _ (by omega)
  have hdec : decide ((1000 : Int) < (s.output.length : Int) + (ls.size : Int)) = false := by simp; omega
  go_enter Tryd.func44, Tryd.ntmps44
  go_wp2
  go_region_held3 (fun w' => w'.cell? ⟨bm, 100, none⟩ = some (.int .i64 (i : Int)) ∧ w'.cell? ⟨bm, i, none⟩ = some (.int .i64 W)) (go_keep) (fail)
  go_upto_if 46 with (fail)
  go_cut [4] (fun s4 wx => s4 = .int .i64 (a : Int) ∧ MachIs wx bm s cs (.slice A s.output.length c) ∧ Tabs wx ∧ Ext w wx)
  case first =>
    rcases HA.out with ⟨c1, rfl⟩ | ⟨c1, c2⟩
    · go_wp2
      go_meet
      exact ⟨rfl, HH.out.drew, HT.out.below (Below.drew (Below.refl 2 w)) (Nat.le_refl 2), (Ext.refl w).drew⟩
    · go_wp2
      go_meet
      exact ⟨rfl, HH.out.drew, HT.out.below (Below.drew (Below.refl 2 w)) (Nat.le_refl 2), (Ext.refl w).drew⟩
  case rest =>
    obtain ⟨rfl, hmc, htc, hxc⟩ := hcut
    have HMC := Lib.hid hmc
    have HTC := Lib.hid htc
    have HXC := Lib.hid hxc
    have kO : wc.cell? ⟨bm, 106, none⟩ = some (.slice A s.output.length c) := by rw [hmc.cell, hmc.output]
    have kc : wc.cell? ⟨bm, 100, none⟩ = some (.int .i64 (i : Int)) := by rw [hmc.cAt, HAT.out]
    have hltc := hmc.lt
    clear hmc htc hxc
    have a0 : (0 : Int) ≤ (a : Int) := by omega
    have a1 : (a : Int) < 100 := by omega
    go_wp2
    go_region_held3 (fun w' => w'.cell? ⟨bm, 106, none⟩ = some (.slice A s.output.length c)) ((first | exact kO | exact q6 | go_keep)) ((go_at_call 68; refine (HL.out _ (by first | exact HMC.out | exact HMC.out.drew) (by first | exact HTC.out | exact HTC.out.below (Below.drew (Below.refl 2 wc)) (Nat.le_refl 2))).mono ?_; rintro e w5 ⟨rfl, hx5⟩; have q6 : w5.cell? ⟨bm, 106, none⟩ = some (.slice A s.output.length c) := hx5.cell kO; have q0 : w5.cell? ⟨bm, 100, none⟩ = some (.int .i64 (i : Int)) := hx5.cell kc; have HX5 := Lib.hid (HXC.out.trans ((Ext.refl wc).drew.trans hx5)); have HM5 := Lib.hid (HMC.out.drew.ext hx5); have f5 := HM5.out.frozen 100; have hlt5 := HM5.out.lt; clear hx5))
    go_wp2_with fail
    have HM1 : Hid (MachIs (w5.setCell ⟨bm, 100, none⟩ (.int .i64 ((i : Int) + 1))) bm { s with at_ := s.at_ + 1 } _ _) := Lib.hid (by rw [HAT.out]; exact HM5.out.setAt ((i : Int) + 1))
    have HB1 := Lib.hid (Below.setCell (p := ⟨bm, 100, none⟩) (Below.mono HX5.out (Nat.le_of_lt hlt)) (Nat.le_refl _) (.int .i64 ((i : Int) + 1)))
    refine (effs_c bm _).mono ?_
    rintro e w2 ⟨g, rfl, hg2, hx2, hc2⟩
    have HM2 := Lib.hid (HM1.out.ext hx2)
    have HB2 := Lib.hid (Below.trans HB1.out (Below.mono hx2 (Nat.le_of_lt HM1.out.lt)))
    have HC2 := Lib.hid hc2
    have HT2 := Lib.hid (HT.out.below HB2.out hb8)
    have HGV : Hid ((Value.slice A s.output.length c).ownBlock ≠ some g) := Lib.hid (fun q => by have := (own_lt HM1.out.outputo q).2; omega)
    have hidx : ∀ W' : World, (Instr.index 101 (.agg (effA g)) (.int .i64 14)).run Tryd.prog W' = .ok (.func (.func 111) #[] #[.pointer (some ⟨g, 0, none⟩)]) W' := fun _ => by kernel_rfl
    clear hx2 hc2 hg2
    go_wp2_with fail
    refine (eff14 HM2.out HC2.out (ok_next HOK.out hi HAT.out) HT2.out HGV.out HOL.out a).mono ?_
    rintro e w3 ⟨rfl, cs3, vo3, hm3, hb3⟩
    have HM3 := Lib.hid hm3
    have HB3 := Lib.hid (HB2.out.trans hb3)
    clear hm3 hb3
    go_wp2_with fail
    refine bodyPost_end (results_none Tryd.results44 _ _ _) rfl ?_
    exact ⟨rfl, cs3, vo3, HM3.out, HB3.out⟩
end Go.Proofs.YtbaahbpianingaaDoor
