import Derived.Test.YtbaahbpianingaaDoorMg10
import Derived.Deep.DeepCutAuto
import Derived.Outline
namespace Go.Proofs.YtbaahbpianingaaDoor
open Go Go.Proofs Go.RowKit
open Acc (Dk red five)
set_option maxHeartbeats 4000000
set_option maxRecDepth 100000
theorem step_op0 {w : World} {bm : Nat} {s : Dk} {cs : Array Value} {vo : Value} (h : MachIs w bm s cs vo) (ok : OkSt s) (i r a : Nat) (hi : i < 100) (hat : s.at_ = i) (W : Int) (hw : Acc.wordAt s i = W) (w0 : 0 ≤ W) (w1 : W < 20000) (hop : W / 100 % 100 = 0) (hr : W % 100 = r) (ha : a < 100)
    (hA : W < 10000 ∧ r = a ∨ 10000 ≤ W ∧ (r : Int) + s.x = a) : Calls Tryd.prog 44 #[.pointer (some ⟨bm, 0, none⟩)] w (EffPost w bm (Acc.effF { s with at_ := s.at_ + 1 } 0 a)) := by
  have HH := Lib.hid h
  have hlt := h.lt
  have k0 : w.cell? ⟨bm, 100, none⟩ = some (.int .i64 (i : Int)) := by rw [h.cAt, hat]
  have f0 := h.frozen 100
  have kW : w.cell? ⟨bm, i, none⟩ = some (.int .i64 W) := by have := h.cWord hi; rw [← hw]; simpa [Acc.wordAt] using this
  have kX := h.cX
  have i0 : (0 : Int) ≤ (i : Int) := by omega
  have i1 : (i : Int) < 100 := by omega
  have hx5 := Acc.five_iff.1 ok.ok.x
  have hne : ((i : Int) == 100) = false := by simp; omega
  have HAT := Lib.hid hat
  have HW := Lib.hid hw
  have HA := Lib.hid hA
  have HOK := Lib.hid ok
  have HX := Lib.hid hx5
  clear h hat hw hA ok
  go_enter Tryd.func44, Tryd.ntmps44
  go_wp2
  go_region_held3 (fun w' => w'.cell? ⟨bm, 100, none⟩ = some (.int .i64 (i : Int)) ∧ w'.cell? ⟨bm, i, none⟩ = some (.int .i64 W)) (go_keep) (fail)
  go_upto_if 46 with (fail)
  go_cut [4] (fun s4 wx => s4 = .int .i64 (a : Int) ∧ wx = w.drew)
  case first =>
    rcases HA.out with ⟨c1, rfl⟩ | ⟨c1, c2⟩
    · go_wp2
      go_meet
      exact ⟨rfl, rfl⟩
    · go_wp2
      go_meet
      exact ⟨rfl, rfl⟩
  case rest =>
    obtain ⟨rfl, rfl⟩ := hcut
    have a0 : (0 : Int) ≤ (a : Int) := by omega
    have a1 : (a : Int) < 100 := by omega
    go_wp2
    go_quiet (fail)
    go_wp2_with fail
    have HM1 : Hid (MachIs ((w.drewN (1 + nq)).setCell ⟨bm, 100, none⟩ (.int .i64 ((i : Int) + 1))) bm { s with at_ := s.at_ + 1 } _ vo) := Lib.hid (by rw [HAT.out]; exact (HH.out.drewN (1 + nq)).setAt ((i : Int) + 1))
    have HB1 := Lib.hid (Below.setCell (p := ⟨bm, 100, none⟩) (Below.mono ((Ext.refl w).drewN (1 + nq)) (Nat.le_of_lt hlt)) (Nat.le_refl _) (.int .i64 ((i : Int) + 1)))
    refine (effs_c bm _).mono ?_
    rintro e w2 ⟨g, rfl, hg2, hx2, hc2⟩
    have HM2 := Lib.hid (HM1.out.ext hx2)
    have HB2 := Lib.hid (Below.trans HB1.out (Below.mono hx2 (Nat.le_of_lt HM1.out.lt)))
    have HC2 := Lib.hid hc2
    have hidx : ∀ W' : World, (Instr.index 101 (.agg (effA g)) (.int .i64 0)).run Tryd.prog W' = .ok (.func (.func 93) #[] #[.pointer (some ⟨g, 0, none⟩)]) W' := fun _ => by kernel_rfl
    clear hx2 hc2 hg2
    go_wp2_with fail
    refine (eff0 HM2.out HC2.out a).mono ?_
    rintro e w3 ⟨rfl, cs3, vo3, hm3, hb3⟩
    have HM3 := Lib.hid hm3
    have HB3 := Lib.hid (HB2.out.trans hb3)
    clear hm3 hb3
    go_wp2_with fail
    refine bodyPost_end (results_none Tryd.results44 _ _ _) rfl ?_
    exact ⟨rfl, cs3, vo3, HM3.out, HB3.out⟩
theorem step_op1 {w : World} {bm : Nat} {s : Dk} {cs : Array Value} {vo : Value} (h : MachIs w bm s cs vo) (ok : OkSt s) (i r a : Nat) (hi : i < 100) (hat : s.at_ = i) (W : Int) (hw : Acc.wordAt s i = W) (w0 : 0 ≤ W) (w1 : W < 20000) (hop : W / 100 % 100 = 1) (hr : W % 100 = r) (ha : a < 100)
    (hA : W < 10000 ∧ r = a ∨ 10000 ≤ W ∧ (r : Int) + s.x = a) : Calls Tryd.prog 44 #[.pointer (some ⟨bm, 0, none⟩)] w (EffPost w bm (Acc.effF { s with at_ := s.at_ + 1 } 1 a)) := by
  have HH := Lib.hid h
  have hlt := h.lt
  have k0 : w.cell? ⟨bm, 100, none⟩ = some (.int .i64 (i : Int)) := by rw [h.cAt, hat]
  have f0 := h.frozen 100
  have kW : w.cell? ⟨bm, i, none⟩ = some (.int .i64 W) := by have := h.cWord hi; rw [← hw]; simpa [Acc.wordAt] using this
  have kX := h.cX
  have i0 : (0 : Int) ≤ (i : Int) := by omega
  have i1 : (i : Int) < 100 := by omega
  have hx5 := Acc.five_iff.1 ok.ok.x
  have hne : ((i : Int) == 100) = false := by simp; omega
  have HAT := Lib.hid hat
  have HW := Lib.hid hw
  have HA := Lib.hid hA
  have HOK := Lib.hid ok
  have HX := Lib.hid hx5
  clear h hat hw hA ok
  go_enter Tryd.func44, Tryd.ntmps44
  go_wp2
  go_region_held3 (fun w' => w'.cell? ⟨bm, 100, none⟩ = some (.int .i64 (i : Int)) ∧ w'.cell? ⟨bm, i, none⟩ = some (.int .i64 W)) (go_keep) (fail)
  go_upto_if 46 with (fail)
  go_cut [4] (fun s4 wx => s4 = .int .i64 (a : Int) ∧ wx = w.drew)
  case first =>
    rcases HA.out with ⟨c1, rfl⟩ | ⟨c1, c2⟩
    · go_wp2
      go_meet
      exact ⟨rfl, rfl⟩
    · go_wp2
      go_meet
      exact ⟨rfl, rfl⟩
  case rest =>
    obtain ⟨rfl, rfl⟩ := hcut
    have a0 : (0 : Int) ≤ (a : Int) := by omega
    have a1 : (a : Int) < 100 := by omega
    go_wp2
    go_quiet (fail)
    go_wp2_with fail
    have HM1 : Hid (MachIs ((w.drewN (1 + nq)).setCell ⟨bm, 100, none⟩ (.int .i64 ((i : Int) + 1))) bm { s with at_ := s.at_ + 1 } _ vo) := Lib.hid (by rw [HAT.out]; exact (HH.out.drewN (1 + nq)).setAt ((i : Int) + 1))
    have HB1 := Lib.hid (Below.setCell (p := ⟨bm, 100, none⟩) (Below.mono ((Ext.refl w).drewN (1 + nq)) (Nat.le_of_lt hlt)) (Nat.le_refl _) (.int .i64 ((i : Int) + 1)))
    refine (effs_c bm _).mono ?_
    rintro e w2 ⟨g, rfl, hg2, hx2, hc2⟩
    have HM2 := Lib.hid (HM1.out.ext hx2)
    have HB2 := Lib.hid (Below.trans HB1.out (Below.mono hx2 (Nat.le_of_lt HM1.out.lt)))
    have HC2 := Lib.hid hc2
    have hidx : ∀ W' : World, (Instr.index 101 (.agg (effA g)) (.int .i64 1)).run Tryd.prog W' = .ok (.func (.func 94) #[] #[.pointer (some ⟨g, 0, none⟩)]) W' := fun _ => by kernel_rfl
    clear hx2 hc2 hg2
    go_wp2_with fail
    refine (eff1 HM2.out HC2.out a ha).mono ?_
    rintro e w3 ⟨rfl, cs3, vo3, hm3, hb3⟩
    have HM3 := Lib.hid hm3
    have HB3 := Lib.hid (HB2.out.trans hb3)
    clear hm3 hb3
    go_wp2_with fail
    refine bodyPost_end (results_none Tryd.results44 _ _ _) rfl ?_
    exact ⟨rfl, cs3, vo3, HM3.out, HB3.out⟩
theorem step_op2 {w : World} {bm : Nat} {s : Dk} {cs : Array Value} {vo : Value} (h : MachIs w bm s cs vo) (ok : OkSt s) (i r a : Nat) (hi : i < 100) (hat : s.at_ = i) (W : Int) (hw : Acc.wordAt s i = W) (w0 : 0 ≤ W) (w1 : W < 20000) (hop : W / 100 % 100 = 2) (hr : W % 100 = r) (ha : a < 100)
    (hA : W < 10000 ∧ r = a ∨ 10000 ≤ W ∧ (r : Int) + s.x = a) : Calls Tryd.prog 44 #[.pointer (some ⟨bm, 0, none⟩)] w (EffPost w bm (Acc.effF { s with at_ := s.at_ + 1 } 2 a)) := by
  have HH := Lib.hid h
  have hlt := h.lt
  have k0 : w.cell? ⟨bm, 100, none⟩ = some (.int .i64 (i : Int)) := by rw [h.cAt, hat]
  have f0 := h.frozen 100
  have kW : w.cell? ⟨bm, i, none⟩ = some (.int .i64 W) := by have := h.cWord hi; rw [← hw]; simpa [Acc.wordAt] using this
  have kX := h.cX
  have i0 : (0 : Int) ≤ (i : Int) := by omega
  have i1 : (i : Int) < 100 := by omega
  have hx5 := Acc.five_iff.1 ok.ok.x
  have hne : ((i : Int) == 100) = false := by simp; omega
  have HAT := Lib.hid hat
  have HW := Lib.hid hw
  have HA := Lib.hid hA
  have HOK := Lib.hid ok
  have HX := Lib.hid hx5
  clear h hat hw hA ok
  go_enter Tryd.func44, Tryd.ntmps44
  go_wp2
  go_region_held3 (fun w' => w'.cell? ⟨bm, 100, none⟩ = some (.int .i64 (i : Int)) ∧ w'.cell? ⟨bm, i, none⟩ = some (.int .i64 W)) (go_keep) (fail)
  go_upto_if 46 with (fail)
  go_cut [4] (fun s4 wx => s4 = .int .i64 (a : Int) ∧ wx = w.drew)
  case first =>
    rcases HA.out with ⟨c1, rfl⟩ | ⟨c1, c2⟩
    · go_wp2
      go_meet
      exact ⟨rfl, rfl⟩
    · go_wp2
      go_meet
      exact ⟨rfl, rfl⟩
  case rest =>
    obtain ⟨rfl, rfl⟩ := hcut
    have a0 : (0 : Int) ≤ (a : Int) := by omega
    have a1 : (a : Int) < 100 := by omega
    go_wp2
    go_quiet (fail)
    go_wp2_with fail
    have HM1 : Hid (MachIs ((w.drewN (1 + nq)).setCell ⟨bm, 100, none⟩ (.int .i64 ((i : Int) + 1))) bm { s with at_ := s.at_ + 1 } _ vo) := Lib.hid (by rw [HAT.out]; exact (HH.out.drewN (1 + nq)).setAt ((i : Int) + 1))
    have HB1 := Lib.hid (Below.setCell (p := ⟨bm, 100, none⟩) (Below.mono ((Ext.refl w).drewN (1 + nq)) (Nat.le_of_lt hlt)) (Nat.le_refl _) (.int .i64 ((i : Int) + 1)))
    refine (effs_c bm _).mono ?_
    rintro e w2 ⟨g, rfl, hg2, hx2, hc2⟩
    have HM2 := Lib.hid (HM1.out.ext hx2)
    have HB2 := Lib.hid (Below.trans HB1.out (Below.mono hx2 (Nat.le_of_lt HM1.out.lt)))
    have HC2 := Lib.hid hc2
    have hidx : ∀ W' : World, (Instr.index 101 (.agg (effA g)) (.int .i64 2)).run Tryd.prog W' = .ok (.func (.func 95) #[] #[.pointer (some ⟨g, 0, none⟩)]) W' := fun _ => by kernel_rfl
    clear hx2 hc2 hg2
    go_wp2_with fail
    refine (eff2 HM2.out HC2.out a ha).mono ?_
    rintro e w3 ⟨rfl, cs3, vo3, hm3, hb3⟩
    have HM3 := Lib.hid hm3
    have HB3 := Lib.hid (HB2.out.trans hb3)
    clear hm3 hb3
    go_wp2_with fail
    refine bodyPost_end (results_none Tryd.results44 _ _ _) rfl ?_
    exact ⟨rfl, cs3, vo3, HM3.out, HB3.out⟩
theorem step_op3 {w : World} {bm : Nat} {s : Dk} {cs : Array Value} {vo : Value} (h : MachIs w bm s cs vo) (ok : OkSt s) (i r a : Nat) (hi : i < 100) (hat : s.at_ = i) (W : Int) (hw : Acc.wordAt s i = W) (w0 : 0 ≤ W) (w1 : W < 20000) (hop : W / 100 % 100 = 3) (hr : W % 100 = r) (ha : a < 100)
    (hA : W < 10000 ∧ r = a ∨ 10000 ≤ W ∧ (r : Int) + s.x = a) : Calls Tryd.prog 44 #[.pointer (some ⟨bm, 0, none⟩)] w (EffPost w bm (Acc.effF { s with at_ := s.at_ + 1 } 3 a)) := by
  have HH := Lib.hid h
  have hlt := h.lt
  have k0 : w.cell? ⟨bm, 100, none⟩ = some (.int .i64 (i : Int)) := by rw [h.cAt, hat]
  have f0 := h.frozen 100
  have kW : w.cell? ⟨bm, i, none⟩ = some (.int .i64 W) := by have := h.cWord hi; rw [← hw]; simpa [Acc.wordAt] using this
  have kX := h.cX
  have i0 : (0 : Int) ≤ (i : Int) := by omega
  have i1 : (i : Int) < 100 := by omega
  have hx5 := Acc.five_iff.1 ok.ok.x
  have hne : ((i : Int) == 100) = false := by simp; omega
  have HAT := Lib.hid hat
  have HW := Lib.hid hw
  have HA := Lib.hid hA
  have HOK := Lib.hid ok
  have HX := Lib.hid hx5
  clear h hat hw hA ok
  go_enter Tryd.func44, Tryd.ntmps44
  go_wp2
  go_region_held3 (fun w' => w'.cell? ⟨bm, 100, none⟩ = some (.int .i64 (i : Int)) ∧ w'.cell? ⟨bm, i, none⟩ = some (.int .i64 W)) (go_keep) (fail)
  go_upto_if 46 with (fail)
  go_cut [4] (fun s4 wx => s4 = .int .i64 (a : Int) ∧ wx = w.drew)
  case first =>
    rcases HA.out with ⟨c1, rfl⟩ | ⟨c1, c2⟩
    · go_wp2
      go_meet
      exact ⟨rfl, rfl⟩
    · go_wp2
      go_meet
      exact ⟨rfl, rfl⟩
  case rest =>
    obtain ⟨rfl, rfl⟩ := hcut
    have a0 : (0 : Int) ≤ (a : Int) := by omega
    have a1 : (a : Int) < 100 := by omega
    go_wp2
    go_quiet (fail)
    go_wp2_with fail
    have HM1 : Hid (MachIs ((w.drewN (1 + nq)).setCell ⟨bm, 100, none⟩ (.int .i64 ((i : Int) + 1))) bm { s with at_ := s.at_ + 1 } _ vo) := Lib.hid (by rw [HAT.out]; exact (HH.out.drewN (1 + nq)).setAt ((i : Int) + 1))
    have HB1 := Lib.hid (Below.setCell (p := ⟨bm, 100, none⟩) (Below.mono ((Ext.refl w).drewN (1 + nq)) (Nat.le_of_lt hlt)) (Nat.le_refl _) (.int .i64 ((i : Int) + 1)))
    refine (effs_c bm _).mono ?_
    rintro e w2 ⟨g, rfl, hg2, hx2, hc2⟩
    have HM2 := Lib.hid (HM1.out.ext hx2)
    have HB2 := Lib.hid (Below.trans HB1.out (Below.mono hx2 (Nat.le_of_lt HM1.out.lt)))
    have HC2 := Lib.hid hc2
    have hidx : ∀ W' : World, (Instr.index 101 (.agg (effA g)) (.int .i64 3)).run Tryd.prog W' = .ok (.func (.func 96) #[] #[.pointer (some ⟨g, 0, none⟩)]) W' := fun _ => by kernel_rfl
    clear hx2 hc2 hg2
    go_wp2_with fail
    refine (eff3 HM2.out HC2.out (ok_next HOK.out hi HAT.out) a ha).mono ?_
    rintro e w3 ⟨rfl, cs3, vo3, hm3, hb3⟩
    have HM3 := Lib.hid hm3
    have HB3 := Lib.hid (HB2.out.trans hb3)
    clear hm3 hb3
    go_wp2_with fail
    refine bodyPost_end (results_none Tryd.results44 _ _ _) rfl ?_
    exact ⟨rfl, cs3, vo3, HM3.out, HB3.out⟩
end Go.Proofs.YtbaahbpianingaaDoor
namespace Go.Proofs.YtbaahbpianingaaDoor
open Go Go.Proofs Go.RowKit
open Acc (Dk red five)
set_option maxHeartbeats 4000000
set_option maxRecDepth 100000
theorem step_op4 {w : World} {bm : Nat} {s : Dk} {cs : Array Value} {vo : Value} (h : MachIs w bm s cs vo) (ok : OkSt s) (i r a : Nat) (hi : i < 100) (hat : s.at_ = i) (W : Int) (hw : Acc.wordAt s i = W) (w0 : 0 ≤ W) (w1 : W < 20000) (hop : W / 100 % 100 = 4) (hr : W % 100 = r) (ha : a < 100)
    (hA : W < 10000 ∧ r = a ∨ 10000 ≤ W ∧ (r : Int) + s.x = a) : Calls Tryd.prog 44 #[.pointer (some ⟨bm, 0, none⟩)] w (EffPost w bm (Acc.effF { s with at_ := s.at_ + 1 } 4 a)) := by
  have HH := Lib.hid h
  have hlt := h.lt
  have k0 : w.cell? ⟨bm, 100, none⟩ = some (.int .i64 (i : Int)) := by rw [h.cAt, hat]
  have f0 := h.frozen 100
  have kW : w.cell? ⟨bm, i, none⟩ = some (.int .i64 W) := by have := h.cWord hi; rw [← hw]; simpa [Acc.wordAt] using this
  have kX := h.cX
  have i0 : (0 : Int) ≤ (i : Int) := by omega
  have i1 : (i : Int) < 100 := by omega
  have hx5 := Acc.five_iff.1 ok.ok.x
  have hne : ((i : Int) == 100) = false := by simp; omega
  have HAT := Lib.hid hat
  have HW := Lib.hid hw
  have HA := Lib.hid hA
  have HOK := Lib.hid ok
  have HX := Lib.hid hx5
  clear h hat hw hA ok
  go_enter Tryd.func44, Tryd.ntmps44
  go_wp2
  go_region_held3 (fun w' => w'.cell? ⟨bm, 100, none⟩ = some (.int .i64 (i : Int)) ∧ w'.cell? ⟨bm, i, none⟩ = some (.int .i64 W)) (go_keep) (fail)
  go_upto_if 46 with (fail)
  go_cut [4] (fun s4 wx => s4 = .int .i64 (a : Int) ∧ wx = w.drew)
  case first =>
    rcases HA.out with ⟨c1, rfl⟩ | ⟨c1, c2⟩
    · go_wp2
      go_meet
      exact ⟨rfl, rfl⟩
    · go_wp2
      go_meet
      exact ⟨rfl, rfl⟩
  case rest =>
    obtain ⟨rfl, rfl⟩ := hcut
    have a0 : (0 : Int) ≤ (a : Int) := by omega
    have a1 : (a : Int) < 100 := by omega
    go_wp2
    go_quiet (fail)
    go_wp2_with fail
    have HM1 : Hid (MachIs ((w.drewN (1 + nq)).setCell ⟨bm, 100, none⟩ (.int .i64 ((i : Int) + 1))) bm { s with at_ := s.at_ + 1 } _ vo) := Lib.hid (by rw [HAT.out]; exact (HH.out.drewN (1 + nq)).setAt ((i : Int) + 1))
    have HB1 := Lib.hid (Below.setCell (p := ⟨bm, 100, none⟩) (Below.mono ((Ext.refl w).drewN (1 + nq)) (Nat.le_of_lt hlt)) (Nat.le_refl _) (.int .i64 ((i : Int) + 1)))
    refine (effs_c bm _).mono ?_
    rintro e w2 ⟨g, rfl, hg2, hx2, hc2⟩
    have HM2 := Lib.hid (HM1.out.ext hx2)
    have HB2 := Lib.hid (Below.trans HB1.out (Below.mono hx2 (Nat.le_of_lt HM1.out.lt)))
    have HC2 := Lib.hid hc2
    have hidx : ∀ W' : World, (Instr.index 101 (.agg (effA g)) (.int .i64 4)).run Tryd.prog W' = .ok (.func (.func 98) #[] #[.pointer (some ⟨g, 0, none⟩)]) W' := fun _ => by kernel_rfl
    clear hx2 hc2 hg2
    go_wp2_with fail
    refine (eff4 HM2.out HC2.out (ok_next HOK.out hi HAT.out) a ha).mono ?_
    rintro e w3 ⟨rfl, cs3, vo3, hm3, hb3⟩
    have HM3 := Lib.hid hm3
    have HB3 := Lib.hid (HB2.out.trans hb3)
    clear hm3 hb3
    go_wp2_with fail
    refine bodyPost_end (results_none Tryd.results44 _ _ _) rfl ?_
    exact ⟨rfl, cs3, vo3, HM3.out, HB3.out⟩
theorem step_op5 {w : World} {bm : Nat} {s : Dk} {cs : Array Value} {vo : Value} (h : MachIs w bm s cs vo) (ok : OkSt s) (i r a : Nat) (hi : i < 100) (hat : s.at_ = i) (W : Int) (hw : Acc.wordAt s i = W) (w0 : 0 ≤ W) (w1 : W < 20000) (hop : W / 100 % 100 = 5) (hr : W % 100 = r) (ha : a < 100)
    (hA : W < 10000 ∧ r = a ∨ 10000 ≤ W ∧ (r : Int) + s.x = a) : Calls Tryd.prog 44 #[.pointer (some ⟨bm, 0, none⟩)] w (EffPost w bm (Acc.effF { s with at_ := s.at_ + 1 } 5 a)) := by
  have HH := Lib.hid h
  have hlt := h.lt
  have k0 : w.cell? ⟨bm, 100, none⟩ = some (.int .i64 (i : Int)) := by rw [h.cAt, hat]
  have f0 := h.frozen 100
  have kW : w.cell? ⟨bm, i, none⟩ = some (.int .i64 W) := by have := h.cWord hi; rw [← hw]; simpa [Acc.wordAt] using this
  have kX := h.cX
  have i0 : (0 : Int) ≤ (i : Int) := by omega
  have i1 : (i : Int) < 100 := by omega
  have hx5 := Acc.five_iff.1 ok.ok.x
  have hne : ((i : Int) == 100) = false := by simp; omega
  have HAT := Lib.hid hat
  have HW := Lib.hid hw
  have HA := Lib.hid hA
  have HOK := Lib.hid ok
  have HX := Lib.hid hx5
  clear h hat hw hA ok
  go_enter Tryd.func44, Tryd.ntmps44
  go_wp2
  go_region_held3 (fun w' => w'.cell? ⟨bm, 100, none⟩ = some (.int .i64 (i : Int)) ∧ w'.cell? ⟨bm, i, none⟩ = some (.int .i64 W)) (go_keep) (fail)
  go_upto_if 46 with (fail)
  go_cut [4] (fun s4 wx => s4 = .int .i64 (a : Int) ∧ wx = w.drew)
  case first =>
    rcases HA.out with ⟨c1, rfl⟩ | ⟨c1, c2⟩
    · go_wp2
      go_meet
      exact ⟨rfl, rfl⟩
    · go_wp2
      go_meet
      exact ⟨rfl, rfl⟩
  case rest =>
    obtain ⟨rfl, rfl⟩ := hcut
    have a0 : (0 : Int) ≤ (a : Int) := by omega
    have a1 : (a : Int) < 100 := by omega
    go_wp2
    go_quiet (fail)
    go_wp2_with fail
    have HM1 : Hid (MachIs ((w.drewN (1 + nq)).setCell ⟨bm, 100, none⟩ (.int .i64 ((i : Int) + 1))) bm { s with at_ := s.at_ + 1 } _ vo) := Lib.hid (by rw [HAT.out]; exact (HH.out.drewN (1 + nq)).setAt ((i : Int) + 1))
    have HB1 := Lib.hid (Below.setCell (p := ⟨bm, 100, none⟩) (Below.mono ((Ext.refl w).drewN (1 + nq)) (Nat.le_of_lt hlt)) (Nat.le_refl _) (.int .i64 ((i : Int) + 1)))
    refine (effs_c bm _).mono ?_
    rintro e w2 ⟨g, rfl, hg2, hx2, hc2⟩
    have HM2 := Lib.hid (HM1.out.ext hx2)
    have HB2 := Lib.hid (Below.trans HB1.out (Below.mono hx2 (Nat.le_of_lt HM1.out.lt)))
    have HC2 := Lib.hid hc2
    have hidx : ∀ W' : World, (Instr.index 101 (.agg (effA g)) (.int .i64 5)).run Tryd.prog W' = .ok (.func (.func 99) #[] #[.pointer (some ⟨g, 0, none⟩)]) W' := fun _ => by kernel_rfl
    clear hx2 hc2 hg2
    go_wp2_with fail
    refine (eff5 HM2.out HC2.out (ok_next HOK.out hi HAT.out) a ha).mono ?_
    rintro e w3 ⟨rfl, cs3, vo3, hm3, hb3⟩
    have HM3 := Lib.hid hm3
    have HB3 := Lib.hid (HB2.out.trans hb3)
    clear hm3 hb3
    go_wp2_with fail
    refine bodyPost_end (results_none Tryd.results44 _ _ _) rfl ?_
    exact ⟨rfl, cs3, vo3, HM3.out, HB3.out⟩
theorem step_op7 {w : World} {bm : Nat} {s : Dk} {cs : Array Value} {vo : Value} (h : MachIs w bm s cs vo) (ok : OkSt s) (i r a : Nat) (hi : i < 100) (hat : s.at_ = i) (W : Int) (hw : Acc.wordAt s i = W) (w0 : 0 ≤ W) (w1 : W < 20000) (hop : W / 100 % 100 = 7) (hr : W % 100 = r) (ha : a < 100)
    (hA : W < 10000 ∧ r = a ∨ 10000 ≤ W ∧ (r : Int) + s.x = a) : Calls Tryd.prog 44 #[.pointer (some ⟨bm, 0, none⟩)] w (EffPost w bm (Acc.effF { s with at_ := s.at_ + 1 } 7 a)) := by
  have HH := Lib.hid h
  have hlt := h.lt
  have k0 : w.cell? ⟨bm, 100, none⟩ = some (.int .i64 (i : Int)) := by rw [h.cAt, hat]
  have f0 := h.frozen 100
  have kW : w.cell? ⟨bm, i, none⟩ = some (.int .i64 W) := by have := h.cWord hi; rw [← hw]; simpa [Acc.wordAt] using this
  have kX := h.cX
  have i0 : (0 : Int) ≤ (i : Int) := by omega
  have i1 : (i : Int) < 100 := by omega
  have hx5 := Acc.five_iff.1 ok.ok.x
  have hne : ((i : Int) == 100) = false := by simp; omega
  have HAT := Lib.hid hat
  have HW := Lib.hid hw
  have HA := Lib.hid hA
  have HOK := Lib.hid ok
  have HX := Lib.hid hx5
  clear h hat hw hA ok
  go_enter Tryd.func44, Tryd.ntmps44
  go_wp2
  go_region_held3 (fun w' => w'.cell? ⟨bm, 100, none⟩ = some (.int .i64 (i : Int)) ∧ w'.cell? ⟨bm, i, none⟩ = some (.int .i64 W)) (go_keep) (fail)
  go_upto_if 46 with (fail)
  go_cut [4] (fun s4 wx => s4 = .int .i64 (a : Int) ∧ wx = w.drew)
  case first =>
    rcases HA.out with ⟨c1, rfl⟩ | ⟨c1, c2⟩
    · go_wp2
      go_meet
      exact ⟨rfl, rfl⟩
    · go_wp2
      go_meet
      exact ⟨rfl, rfl⟩
  case rest =>
    obtain ⟨rfl, rfl⟩ := hcut
    have a0 : (0 : Int) ≤ (a : Int) := by omega
    have a1 : (a : Int) < 100 := by omega
    go_wp2
    go_quiet (fail)
    go_wp2_with fail
    have HM1 : Hid (MachIs ((w.drewN (1 + nq)).setCell ⟨bm, 100, none⟩ (.int .i64 ((i : Int) + 1))) bm { s with at_ := s.at_ + 1 } _ vo) := Lib.hid (by rw [HAT.out]; exact (HH.out.drewN (1 + nq)).setAt ((i : Int) + 1))
    have HB1 := Lib.hid (Below.setCell (p := ⟨bm, 100, none⟩) (Below.mono ((Ext.refl w).drewN (1 + nq)) (Nat.le_of_lt hlt)) (Nat.le_refl _) (.int .i64 ((i : Int) + 1)))
    refine (effs_c bm _).mono ?_
    rintro e w2 ⟨g, rfl, hg2, hx2, hc2⟩
    have HM2 := Lib.hid (HM1.out.ext hx2)
    have HB2 := Lib.hid (Below.trans HB1.out (Below.mono hx2 (Nat.le_of_lt HM1.out.lt)))
    have HC2 := Lib.hid hc2
    have hidx : ∀ W' : World, (Instr.index 101 (.agg (effA g)) (.int .i64 7)).run Tryd.prog W' = .ok (.func (.func 102) #[] #[.pointer (some ⟨g, 0, none⟩)]) W' := fun _ => by kernel_rfl
    clear hx2 hc2 hg2
    go_wp2_with fail
    refine (eff7 HM2.out HC2.out (ok_next HOK.out hi HAT.out) a ha).mono ?_
    rintro e w3 ⟨rfl, cs3, vo3, hm3, hb3⟩
    have HM3 := Lib.hid hm3
    have HB3 := Lib.hid (HB2.out.trans hb3)
    clear hm3 hb3
    go_wp2_with fail
    refine bodyPost_end (results_none Tryd.results44 _ _ _) rfl ?_
    exact ⟨rfl, cs3, vo3, HM3.out, HB3.out⟩
theorem step_op8 {w : World} {bm : Nat} {s : Dk} {cs : Array Value} {vo : Value} (h : MachIs w bm s cs vo) (ok : OkSt s) (i r a : Nat) (hi : i < 100) (hat : s.at_ = i) (W : Int) (hw : Acc.wordAt s i = W) (w0 : 0 ≤ W) (w1 : W < 20000) (hop : W / 100 % 100 = 8) (hr : W % 100 = r) (ha : a < 100)
    (hA : W < 10000 ∧ r = a ∨ 10000 ≤ W ∧ (r : Int) + s.x = a) : Calls Tryd.prog 44 #[.pointer (some ⟨bm, 0, none⟩)] w (EffPost w bm (Acc.effF { s with at_ := s.at_ + 1 } 8 a)) := by
  have HH := Lib.hid h
  have hlt := h.lt
  have k0 : w.cell? ⟨bm, 100, none⟩ = some (.int .i64 (i : Int)) := by rw [h.cAt, hat]
  have f0 := h.frozen 100
  have kW : w.cell? ⟨bm, i, none⟩ = some (.int .i64 W) := by have := h.cWord hi; rw [← hw]; simpa [Acc.wordAt] using this
  have kX := h.cX
  have i0 : (0 : Int) ≤ (i : Int) := by omega
  have i1 : (i : Int) < 100 := by omega
  have hx5 := Acc.five_iff.1 ok.ok.x
  have hne : ((i : Int) == 100) = false := by simp; omega
  have HAT := Lib.hid hat
  have HW := Lib.hid hw
  have HA := Lib.hid hA
  have HOK := Lib.hid ok
  have HX := Lib.hid hx5
  clear h hat hw hA ok
  go_enter Tryd.func44, Tryd.ntmps44
  go_wp2
  go_region_held3 (fun w' => w'.cell? ⟨bm, 100, none⟩ = some (.int .i64 (i : Int)) ∧ w'.cell? ⟨bm, i, none⟩ = some (.int .i64 W)) (go_keep) (fail)
  go_upto_if 46 with (fail)
  go_cut [4] (fun s4 wx => s4 = .int .i64 (a : Int) ∧ wx = w.drew)
  case first =>
    rcases HA.out with ⟨c1, rfl⟩ | ⟨c1, c2⟩
    · go_wp2
      go_meet
      exact ⟨rfl, rfl⟩
    · go_wp2
      go_meet
      exact ⟨rfl, rfl⟩
  case rest =>
    obtain ⟨rfl, rfl⟩ := hcut
    have a0 : (0 : Int) ≤ (a : Int) := by omega
    have a1 : (a : Int) < 100 := by omega
    go_wp2
    go_quiet (fail)
    go_wp2_with fail
    have HM1 : Hid (MachIs ((w.drewN (1 + nq)).setCell ⟨bm, 100, none⟩ (.int .i64 ((i : Int) + 1))) bm { s with at_ := s.at_ + 1 } _ vo) := Lib.hid (by rw [HAT.out]; exact (HH.out.drewN (1 + nq)).setAt ((i : Int) + 1))
    have HB1 := Lib.hid (Below.setCell (p := ⟨bm, 100, none⟩) (Below.mono ((Ext.refl w).drewN (1 + nq)) (Nat.le_of_lt hlt)) (Nat.le_refl _) (.int .i64 ((i : Int) + 1)))
    refine (effs_c bm _).mono ?_
    rintro e w2 ⟨g, rfl, hg2, hx2, hc2⟩
    have HM2 := Lib.hid (HM1.out.ext hx2)
    have HB2 := Lib.hid (Below.trans HB1.out (Below.mono hx2 (Nat.le_of_lt HM1.out.lt)))
    have HC2 := Lib.hid hc2
    have hidx : ∀ W' : World, (Instr.index 101 (.agg (effA g)) (.int .i64 8)).run Tryd.prog W' = .ok (.func (.func 104) #[] #[.pointer (some ⟨g, 0, none⟩)]) W' := fun _ => by kernel_rfl
    clear hx2 hc2 hg2
    go_wp2_with fail
    refine (eff8 HM2.out HC2.out (ok_next HOK.out hi HAT.out) a ha).mono ?_
    rintro e w3 ⟨rfl, cs3, vo3, hm3, hb3⟩
    have HM3 := Lib.hid hm3
    have HB3 := Lib.hid (HB2.out.trans hb3)
    clear hm3 hb3
    go_wp2_with fail
    refine bodyPost_end (results_none Tryd.results44 _ _ _) rfl ?_
    exact ⟨rfl, cs3, vo3, HM3.out, HB3.out⟩
end Go.Proofs.YtbaahbpianingaaDoor
