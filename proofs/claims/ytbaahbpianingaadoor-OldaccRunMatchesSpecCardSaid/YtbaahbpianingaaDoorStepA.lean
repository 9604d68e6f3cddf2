import Derived.Test.YtbaahbpianingaaDoorEffF
import Derived.Deep.DeepCutAuto
import Derived.Outline
namespace Go.Proofs.YtbaahbpianingaaDoor
open Go Go.Proofs Go.RowKit
open Acc (Dk red five)
set_option maxHeartbeats 4000000
set_option maxRecDepth 100000
theorem below_drew (w : World) (bm : Nat) (i : Nat) (u : Value) : Below bm w ((w.drew).setCell ⟨bm, i, none⟩ u) := below_setD w bm i u
section
variable {w : World} {bm : Nat} {s : Dk} {cs : Array Value} {vo : Value}
theorem stop_at (h : MachIs w bm s cs vo) (hat : s.at_ = 100) : Calls Tryd.prog 44 #[.pointer (some ⟨bm, 0, none⟩)] w (EffPost w bm { s with stop := 3 }) := by
  have HH := Lib.hid h
  have hlt := h.lt
  have kS := h.cStop
  have fS := h.frozen 107
  have k0 : w.cell? ⟨bm, 100, none⟩ = some (.int .i64 100) := by rw [h.cAt, hat]
  clear h hat
  go_enter Tryd.func44, Tryd.ntmps44
  go_wp2
  all_goals refine bodyPost_end (results_none Tryd.results44 _ _ _) rfl ?_
  all_goals first | exact ⟨rfl, _, _, (HH.out.setStop _), below_set _ _ _ _⟩ | exact ⟨rfl, _, _, HH.out.drew.setStop _, below_setD _ _ _ _⟩ | exact ⟨rfl, _, _, (HH.out.setStop _).drew, below_setE _ _ _ _⟩
theorem stop_bad (h : MachIs w bm s cs vo) (i : Nat) (hi : i < 100) (hat : s.at_ = i) (W : Int) (hw : Acc.wordAt s i = W) (w5 : -99999 ≤ W ∧ W ≤ 99999) (hb : W < 0 ∨ 20000 ≤ W ∨ 0 ≤ W ∧ W < 20000 ∧ 18 ≤ W / 100 % 100) : Calls Tryd.prog 44 #[.pointer (some ⟨bm, 0, none⟩)] w (EffPost w bm { s with stop := 2 }) := by
  have HH := Lib.hid h
  have hlt := h.lt
  have kS := h.cStop
  have fS := h.frozen 107
  have k0 : w.cell? ⟨bm, 100, none⟩ = some (.int .i64 (i : Int)) := by rw [h.cAt, hat]
  have kW : w.cell? ⟨bm, i, none⟩ = some (.int .i64 W) := by have := h.cWord hi; rw [← hw]; simpa [Acc.wordAt] using this
  have i0 : (0 : Int) ≤ (i : Int) := by omega
  have i1 : (i : Int) < 100 := by omega
  have hne : ((i : Int) == 100) = false := by simp; omega
  clear h hat hw
  rcases hb with hb | hb | ⟨hb1, hb2, hb3⟩
  all_goals go_enter Tryd.func44, Tryd.ntmps44
  all_goals go_wp2
  all_goals go_region_held3 (fun w' => w'.cell? ⟨bm, 100, none⟩ = some (.int .i64 (i : Int)) ∧ w'.cell? ⟨bm, i, none⟩ = some (.int .i64 W)) (go_keep) (fail)
  all_goals go_wp2
  all_goals refine bodyPost_end (results_none Tryd.results44 _ _ _) rfl ?_
  all_goals first | exact ⟨rfl, _, _, (HH.out.setStop _), below_set _ _ _ _⟩ | exact ⟨rfl, _, _, HH.out.drew.setStop _, below_setD _ _ _ _⟩ | exact ⟨rfl, _, _, (HH.out.setStop _).drew, below_setE _ _ _ _⟩
theorem stop_addr (h : MachIs w bm s cs vo) (ok : OkSt s) (i : Nat) (hi : i < 100) (hat : s.at_ = i) (W : Int) (hw : Acc.wordAt s i = W) (r : Nat) (z : Int) (w0 : 0 ≤ W) (w1 : W < 20000) (hop : W / 100 % 100 < 18) (hr : W % 100 = r) (hA : W < 10000 ∧ r = z ∨ 10000 ≤ W ∧ (r : Int) + s.x = z) (hz : z < 0 ∨ 100 ≤ z) : Calls Tryd.prog 44 #[.pointer (some ⟨bm, 0, none⟩)] w (EffPost w bm { s with stop := 3 }) := by
  have HH := Lib.hid h
  have hlt := h.lt
  have kS := h.cStop
  have fS := h.frozen 107
  have k0 : w.cell? ⟨bm, 100, none⟩ = some (.int .i64 (i : Int)) := by rw [h.cAt, hat]
  have kW : w.cell? ⟨bm, i, none⟩ = some (.int .i64 W) := by have := h.cWord hi; rw [← hw]; simpa [Acc.wordAt] using this
  have i0 : (0 : Int) ≤ (i : Int) := by omega
  have i1 : (i : Int) < 100 := by omega
  have hne : ((i : Int) == 100) = false := by simp; omega
  have kX := h.cX
  have hx5 := Acc.five_iff.1 ok.ok.x
  have HA := Lib.hid hA
  have HOK := Lib.hid ok
  have HAT := Lib.hid hat
  clear h hat hw hA ok
  go_enter Tryd.func44, Tryd.ntmps44
  go_wp2
  go_region_held3 (fun w' => w'.cell? ⟨bm, 100, none⟩ = some (.int .i64 (i : Int)) ∧ w'.cell? ⟨bm, i, none⟩ = some (.int .i64 W)) (go_keep) (fail)
  go_upto_if 46 with (fail)
  go_cut [4] (fun s4 wx => s4 = .int .i64 z ∧ wx = w.drew)
  case first =>
    rcases HA.out with ⟨c1, c2⟩ | ⟨c1, c2⟩
    all_goals go_wp2
    all_goals go_meet
    all_goals first | exact ⟨rfl, rfl⟩ | exact ⟨by rw [c2], rfl⟩
  case rest =>
    obtain ⟨rfl, rfl⟩ := hcut
    rcases hz with hz | hz
    all_goals go_wp2
    all_goals refine bodyPost_end (results_none Tryd.results44 _ _ _) rfl ?_
    all_goals first | exact ⟨rfl, _, _, (HH.out.setStop _), below_set _ _ _ _⟩ | exact ⟨rfl, _, _, HH.out.drew.setStop _, below_setD _ _ _ _⟩ | exact ⟨rfl, _, _, (HH.out.setStop _).drew, below_setE _ _ _ _⟩
theorem stop_div (h : MachIs w bm s cs vo) (ok : OkSt s) (i : Nat) (hi : i < 100) (hat : s.at_ = i) (W : Int) (hw : Acc.wordAt s i = W) (a : Nat) (ha : a < 100) (r : Nat) (w0 : 0 ≤ W) (w1 : W < 20000) (hop : W / 100 % 100 = 6) (hr : W % 100 = r) (hA : W < 10000 ∧ r = (a : Int) ∨ 10000 ≤ W ∧ (r : Int) + s.x = (a : Int)) (hn0 : Acc.wordAt s a = 0) : Calls Tryd.prog 44 #[.pointer (some ⟨bm, 0, none⟩)] w (EffPost w bm { s with stop := 6 }) := by
  have HH := Lib.hid h
  have hlt := h.lt
  have kS := h.cStop
  have fS := h.frozen 107
  have k0 : w.cell? ⟨bm, 100, none⟩ = some (.int .i64 (i : Int)) := by rw [h.cAt, hat]
  have kW : w.cell? ⟨bm, i, none⟩ = some (.int .i64 W) := by have := h.cWord hi; rw [← hw]; simpa [Acc.wordAt] using this
  have i0 : (0 : Int) ≤ (i : Int) := by omega
  have i1 : (i : Int) < 100 := by omega
  have hne : ((i : Int) == 100) = false := by simp; omega
  have kX := h.cX
  have hx5 := Acc.five_iff.1 ok.ok.x
  have HA := Lib.hid hA
  have HOK := Lib.hid ok
  have HAT := Lib.hid hat
  clear h hat hw hA ok
  have kA : w.cell? ⟨bm, a, none⟩ = some (.int .i64 0) := by have := HH.out.cWord ha; rw [← hn0]; simpa [Acc.wordAt] using this
  clear hn0
  go_enter Tryd.func44, Tryd.ntmps44
  go_wp2
  go_region_held3 (fun w' => w'.cell? ⟨bm, 100, none⟩ = some (.int .i64 (i : Int)) ∧ w'.cell? ⟨bm, i, none⟩ = some (.int .i64 W)) (go_keep) (fail)
  go_upto_if 46 with (fail)
  go_cut [4] (fun s4 wx => s4 = .int .i64 (a : Int) ∧ wx = w.drew)
  case first =>
    rcases HA.out with ⟨c1, c2⟩ | ⟨c1, c2⟩
    all_goals go_wp2
    all_goals go_meet
    all_goals first | exact ⟨rfl, rfl⟩ | exact ⟨by rw [c2], rfl⟩
  case rest =>
    obtain ⟨rfl, rfl⟩ := hcut
    have a0 : (0 : Int) ≤ (a : Int) := by omega
    have a1 : (a : Int) < 100 := by omega
    go_wp2
    all_goals refine bodyPost_end (results_none Tryd.results44 _ _ _) rfl ?_
    all_goals first | exact ⟨rfl, _, _, (HH.out.setStop _), below_set _ _ _ _⟩ | exact ⟨rfl, _, _, HH.out.drew.setStop _, below_setD _ _ _ _⟩ | exact ⟨rfl, _, _, (HH.out.setStop _).drew, below_setE _ _ _ _⟩
theorem stop_full (h : MachIs w bm s cs vo) (ok : OkSt s) (ht : Tabs w) (i : Nat) (hi : i < 100) (hat : s.at_ = i) (W : Int) (hw : Acc.wordAt s i = W) (a : Nat) (ha : a < 100) (r : Nat) (w0 : 0 ≤ W) (w1 : W < 20000) (hop : W / 100 % 100 = 14) (hr : W % 100 = r) (hA : W < 10000 ∧ r = (a : Int) ∨ 10000 ≤ W ∧ (r : Int) + s.x = (a : Int)) (ho : s.output.length ≤ 1000) (hol : 1000 < s.output.length + (Acc.lineF s.a).length) : Calls Tryd.prog 44 #[.pointer (some ⟨bm, 0, none⟩)] w (EffPost w bm { s with stop := 7 }) := by
  have HH := Lib.hid h
  have hlt := h.lt
  have kS := h.cStop
  have fS := h.frozen 107
  have k0 : w.cell? ⟨bm, 100, none⟩ = some (.int .i64 (i : Int)) := by rw [h.cAt, hat]
  have kW : w.cell? ⟨bm, i, none⟩ = some (.int .i64 W) := by have := h.cWord hi; rw [← hw]; simpa [Acc.wordAt] using this
  have i0 : (0 : Int) ≤ (i : Int) := by omega
  have i1 : (i : Int) < 100 := by omega
  have hne : ((i : Int) == 100) = false := by simp; omega
  have kX := h.cX
  have hx5 := Acc.five_iff.1 ok.ok.x
  have HA := Lib.hid hA
  have HOK := Lib.hid ok
  have HAT := Lib.hid hat
  clear h hat hw hA ok
  have HL := Lib.hid (fun W (hW : MachIs W bm s cs vo) (hT : Tabs W) => line_c hW HOK.out.ok.a hT)
  have HT := Lib.hid ht
  clear ht
  have hsz := strOfNums_size (Acc.lineF s.a)
  have hl7 : 1000 < s.output.length + (strOfNums (Acc.lineF s.a)).size := by rw [hsz]; exact hol
  have hup : s.output.length + (strOfNums (Acc.lineF s.a)).size ≤ 5000 := by have := line_len HOK.out.ok.a; rw [hsz]; omega
  have kO : w.cell? ⟨bm, 106, none⟩ = some vo := by rw [HH.out.cell, HH.out.output]
  obtain ⟨A, c, hvo, -⟩ := own_sl HH.out.outputo
  subst hvo
  clear hsz hol ho
  generalize strOfNums (Acc.lineF s.a) = ls at *
  have hwr : IntKind.i64.wrap ((s.output.length : Int) + (ls.size : Int)) = (s.output.length : Int) + (ls.size : Int) := IntWalk.i64_in _ (by omega)
  have hdec : decide ((1000 : Int) < (s.output.length : Int) + (ls.size : Int)) = true := by simp; omega
  go_enter Tryd.func44, Tryd.ntmps44
  go_wp2
  go_region_held3 (fun w' => w'.cell? ⟨bm, 100, none⟩ = some (.int .i64 (i : Int)) ∧ w'.cell? ⟨bm, i, none⟩ = some (.int .i64 W)) (go_keep) (fail)
  go_upto_if 46 with (fail)
  go_cut [4] (fun s4 wx => s4 = .int .i64 (a : Int) ∧ MachIs wx bm s cs (.slice A s.output.length c) ∧ Tabs wx ∧ Ext w wx)
  case first =>
    rcases HA.out with ⟨c1, c2⟩ | ⟨c1, c2⟩
    all_goals go_wp2
    all_goals go_meet
    all_goals exact ⟨by first | rfl | rw [c2], HH.out.drew, HT.out.below (Below.drew (Below.refl 2 w)) (Nat.le_refl 2), (Ext.refl w).drew⟩
  case rest =>
    obtain ⟨rfl, hmc, htc, hxc⟩ := hcut
    have HMC := Lib.hid hmc
    have HTC := Lib.hid htc
    have HXC := Lib.hid hxc
    have kc : wc.cell? ⟨bm, 106, none⟩ = some (.slice A s.output.length c) := by rw [hmc.cell, hmc.output]
    have ks := hmc.cStop
    have fs := hmc.frozen 107
    have hltc := hmc.lt
    have a0 : (0 : Int) ≤ (a : Int) := by omega
    have a1 : (a : Int) < 100 := by omega
    clear hmc htc hxc
    go_wp2
    go_region_held3 (fun w' => w'.cell? ⟨bm, 106, none⟩ = some (.slice A s.output.length c)) ((first | exact kc | exact q6 | go_keep)) ((go_at_call 68; refine (HL.out _ (by first | exact HMC.out | exact HMC.out.drew) (by first | exact HTC.out | exact HTC.out.below (Below.drew (Below.refl 2 wc)) (Nat.le_refl 2))).mono ?_; rintro e w5 ⟨rfl, hx5⟩; have q6 : w5.cell? ⟨bm, 106, none⟩ = some (.slice A s.output.length c) := hx5.cell kc; have q7 : w5.cell? ⟨bm, 107, none⟩ = some (.int .i64 s.stop) := hx5.cell ks; have HX5 := Lib.hid (HXC.out.trans ((Ext.refl wc).drew.trans hx5)); have HM5 := Lib.hid (HMC.out.drew.ext hx5); have f5 := HM5.out.frozen 107; have hlt5 := HM5.out.lt; clear hx5))
    go_wp2
    refine bodyPost_end (results_none Tryd.results44 _ _ _) rfl ?_
    exact ⟨rfl, _, _, HM5.out.setStop _, Below.setCell (p := ⟨bm, 107, none⟩) (Below.mono HX5.out (Nat.le_of_lt hlt)) (Nat.le_refl _) _⟩
end
end Go.Proofs.YtbaahbpianingaaDoor
