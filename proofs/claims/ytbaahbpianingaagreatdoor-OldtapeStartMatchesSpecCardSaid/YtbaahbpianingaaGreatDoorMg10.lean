import Derived.Test.YtbaahbpianingaaGreatDoorMg9
import Derived.Deep.CutBlock
namespace Go.Proofs.YtbaahbpianingaaGreatDoor
open Go Go.Proofs Go.RowKit
open Tape (Rule Ts)
set_option maxHeartbeats 12800000
set_option maxRecDepth 100000
/-- In the course of a step: the machine, the variable that holds its pointer, and the rule. -/
structure Stp (w wx : World) (B bm gb gr : Nat) (s : Ts) (cs : Array Value) (vc : Value) (r : Rule) : Prop where
  tm : TmIs wx B bm s cs vc
  below : Below B w wx
  pb : wx.heap[gb]? = some (.cells #[.pointer (some ⟨bm, 0, none⟩)] 75 (0, 0))
  pr : wx.heap[gr]? = some (.cells (ruleV r).toArray 54 (0, 0))
section
variable {w wx w2 : World} {B bm gb gr : Nat} {s s' : Ts} {cs cs' : Array Value} {vc vc' : Value} {r : Rule}
theorem type_ne {g g' : Nat} {c c' : Array Value} {t t' : TypeId} (h : wx.heap[g]? = some (.cells c t (0, 0))) (h' : wx.heap[g']? = some (.cells c' t' (0, 0))) (hn : t ≠ t') : g ≠ g' := by
  intro e
  subst e
  rw [h] at h'
  injection h' with h'
  injection h' with _ h'
  exact hn h'
theorem Stp.ext (h : Stp w wx B bm gb gr s cs vc r) (x : Ext wx w2) : Stp w w2 B bm gb gr s cs vc r := ⟨h.tm.ext x, (h.below.trans (x.mono (Nat.le_trans h.tm.le (Nat.le_of_lt h.tm.lt)))), ext_heap x h.pb, ext_heap x h.pr⟩
theorem Stp.nb (h : Stp w wx B bm gb gr s cs vc r) : bm ≠ gb := type_ne h.tm.blk h.pb (by decide)
theorem Stp.nr (h : Stp w wx B bm gb gr s cs vc r) : bm ≠ gr := type_ne h.tm.blk h.pr (by decide)
theorem Stp.cellB (h : Stp w wx B bm gb gr s cs vc r) : wx.cell? ⟨gb, 0, none⟩ = some (.pointer (some ⟨bm, 0, none⟩)) := blk_cell h.pb 0
theorem Stp.cellR (h : Stp w wx B bm gb gr s cs vc r) (i : Nat) : wx.cell? ⟨gr, i, none⟩ = (ruleV r).toArray[i]? := blk_cell h.pr i
/-- A cell of the machine's block is set. -/
theorem Stp.set (h : Stp w wx B bm gb gr s cs vc r) {i : Nat} {u : Value} (ht : TmIs (wx.setCell ⟨bm, i, none⟩ u) B bm s' cs' vc) : Stp w (wx.setCell ⟨bm, i, none⟩ u) B bm gb gr s' cs' vc r :=
  ⟨ht, Below.setCell (p := ⟨bm, i, none⟩) h.below h.tm.le u, by rw [Below.heap_setCell _ _ _ _ (fun e => h.nb e.symm)]; exact h.pb, by rw [Below.heap_setCell _ _ _ _ (fun e => h.nr e.symm)]; exact h.pr⟩
/-- The tape is another row. -/
theorem Stp.newCells (h : Stp w wx B bm gb gr s cs vc r) {l : List Int} (hr : RowTo wx w2 B 3 vc vc' l.length (l.map (Value.int .i64))) : Stp w (w2.setCell ⟨bm, 1, none⟩ vc') B bm gb gr { s with cells := l } (cs.setIfInBounds 1 vc') vc' r := by
  have hb : vc.ownBlock ≠ some gb := own_ne h.tm.own h.pb (by decide)
  have hg : vc.ownBlock ≠ some gr := own_ne h.tm.own h.pr (by decide)
  have lb := (Array.getElem?_eq_some_iff.1 h.pb).1
  have lr := (Array.getElem?_eq_some_iff.1 h.pr).1
  refine ⟨h.tm.newCells hr, Below.setCell (p := ⟨bm, 1, none⟩) (Below.grown h.below hr.grown (Nat.le_trans h.tm.le (Nat.le_of_lt h.tm.lt)) fun k hk => (own_lt h.tm.own hk).1) h.tm.le vc', ?_, ?_⟩
  · rw [Below.heap_setCell _ _ _ _ (fun e => h.nb e.symm), hr.block lb hb]; exact h.pb
  · rw [Below.heap_setCell _ _ _ _ (fun e => h.nr e.symm), hr.block lr hg]; exact h.pr
/-- A cell of the tape is written. -/
theorem Stp.put {g c : Nat} (h : Stp w wx B bm gb gr s cs (.slice (some ⟨g, 0, none⟩) s.cells.length c) r) (j : Nat) (x : Int) : Stp w (wx.setCell ⟨g, j, none⟩ (.int .i64 x)) B bm gb gr { s with cells := s.cells.set j x } cs (.slice (some ⟨g, 0, none⟩) s.cells.length c) r := by
  have hb : gb ≠ g := fun e => own_ne h.tm.own h.pb (by decide) (by rw [e]; rfl)
  have hg : gr ≠ g := fun e => own_ne h.tm.own h.pr (by decide) (by rw [e]; rfl)
  exact ⟨h.tm.put j x, Below.setCell (p := ⟨g, j, none⟩) h.below (own_lt h.tm.own rfl).1 _, by rw [Below.heap_setCell _ _ _ _ hb]; exact h.pb, by rw [Below.heap_setCell _ _ _ _ hg]; exact h.pr⟩
theorem slc_new (w : World) (xs : List Value) (t : TypeId) : SlC (w.alloc (.cells xs.toArray t)) (some ⟨w.heap.size, 0, none⟩) xs := by
  intro i u hu
  refine ⟨_, rfl, ?_⟩
  have hadd : (⟨w.heap.size, 0, none⟩ : Addr).add i = ⟨w.heap.size, i, none⟩ := by unfold Addr.add; split <;> simp_all
  rw [hadd, cell_of_row _ _ i xs.toArray t (0, 0) (heap_alloc_new w _)]
  simpa using hu
/-- What a new row for the tape leaves. -/
theorem Stp.after {W W2 : World} (h : Stp w W B bm gb gr s cs vc r) {v' : Value} {l : List Int} (hr : RowTo W W2 B 3 vc v' l.length (l.map (Value.int .i64))) : ∃ A' c', v' = .slice A' l.length c' ∧ W2.cell? ⟨gb, 0, none⟩ = some (.pointer (some ⟨bm, 0, none⟩)) ∧ W2.cell? ⟨bm, 1, none⟩ = some vc ∧ W2.frozen? ⟨bm, 1, none⟩ = false ∧ bm < W2.heap.size ∧ Stp w (W2.setCell ⟨bm, 1, none⟩ (.slice A' l.length c')) B bm gb gr { s with cells := l } (cs.setIfInBounds 1 (.slice A' l.length c')) (.slice A' l.length c') r := by
  obtain ⟨A', c', rfl, -⟩ := own_sl hr.own
  have hb : vc.ownBlock ≠ some gb := own_ne h.tm.own h.pb (by decide)
  have kb : W2.heap[bm]? = W.heap[bm]? := hr.block h.tm.lt h.tm.ownNe
  have kg : W2.heap[gb]? = W.heap[gb]? := hr.block (Array.getElem?_eq_some_iff.1 h.pb).1 hb
  have c1 : W2.cell? ⟨bm, 1, none⟩ = some vc := by rw [World.cell?_of_block (w := W) kb]; exact (h.tm.cell 1).trans h.tm.cells
  refine ⟨A', c', rfl, ?_, c1, ?_, World.block_lt_of_cell? W2 _ c1, h.newCells hr⟩
  · rw [World.cell?_of_block (w := W) kg]; exact h.cellB
  · have := h.tm.frozen 1
    unfold World.frozen? at this ⊢
    rw [kb]
    exact this
theorem Stp.ins {W : World} (h : Stp w wx B bm gb gr s cs vc r) (h1 : 1 ≤ s.cells.length) (h2 : s.cells.length ≤ 200) (x : Ext wx W) (hvb : W.heap[wx.heap.size]? = some (.cells #[.int .i64 0] 3 (0, 0))) :
    Calls Tryz.prog 60 #[vc, .int .i64 0, .slice (some ⟨wx.heap.size, 0, none⟩) 1 1] W fun e w' => ∃ A' c', e = .returned (.slice A' (s.cells.length + 1) c') ∧ w'.cell? ⟨gb, 0, none⟩ = some (.pointer (some ⟨bm, 0, none⟩)) ∧ w'.cell? ⟨bm, 1, none⟩ = some vc ∧ w'.frozen? ⟨bm, 1, none⟩ = false ∧ bm < w'.heap.size ∧ Stp w (w'.setCell ⟨bm, 1, none⟩ (.slice A' (s.cells.length + 1) c')) B bm gb gr { s with cells := 0 :: s.cells } (cs.setIfInBounds 1 (.slice A' (s.cells.length + 1) c')) (.slice A' (s.cells.length + 1) c') r := by
  have hW := h.ext x
  refine (insert0_c B vc s.cells W hW.tm.own h1 h2 wx.heap.size hvb (fun e => by have := (own_lt h.tm.own e).2; omega) (Nat.le_trans hW.tm.le (Nat.le_of_lt hW.tm.lt))).mono ?_
  rintro e w' ⟨v', rfl, hr⟩
  obtain ⟨A', c', rfl, a1, a2, a3, a4, a5⟩ := hW.after (l := 0 :: s.cells) hr
  exact ⟨A', c', rfl, a1, a2, a3, a4, a5⟩
theorem Stp.app {W W2 : World} (h : Stp w W B bm gb gr s cs vc r) {v' : Value} (ho : W2.ownsRow B 3 1 v' (s.cells.length + 1) (s.cells.map (Value.int .i64) ++ [.int .i64 0])) (hg : W.grownBy W2 vc.ownBlock) (hat : v'.ownBlock = vc.ownBlock ∨ v'.ownBlock = some W.heap.size) :
    ∃ A' c', v' = .slice A' (s.cells.length + 1) c' ∧ W2.cell? ⟨gb, 0, none⟩ = some (.pointer (some ⟨bm, 0, none⟩)) ∧ W2.cell? ⟨bm, 1, none⟩ = some vc ∧ W2.frozen? ⟨bm, 1, none⟩ = false ∧ bm < W2.heap.size ∧ Stp w (W2.setCell ⟨bm, 1, none⟩ (.slice A' (s.cells.length + 1) c')) B bm gb gr { s with cells := s.cells ++ [0] } (cs.setIfInBounds 1 (.slice A' (s.cells.length + 1) c')) (.slice A' (s.cells.length + 1) c') r := by
  have hr : RowTo W W2 B 3 vc v' (s.cells ++ [0]).length ((s.cells ++ [0]).map (Value.int .i64)) := by
    refine ⟨by simpa using ho, hg, ?_⟩
    rcases hat with h1 | h1
    · exact .inl h1
    · exact .inr ⟨_, h1, Nat.le_refl _⟩
  obtain ⟨A', c', rfl, a1, a2, a3, a4, a5⟩ := h.after hr
  rw [List.length_append] at *
  exact ⟨A', c', rfl, a1, a2, a3, a4, a5⟩
end
/-- What a step leaves. -/
def StRet (w : World) (B bm : Nat) (s' : Ts) (e : Ending) (w' : World) : Prop := e = .returned (.tuple #[]) ∧ ∃ cs' vc', TmIs w' B bm s' cs' vc' ∧ Below B w w'
theorem step_t {w : World} {B bm : Nat} {s : Ts} {cs : Array Value} {vc : Value} (h : TmIs w B bm s cs vc) (hok : Tape.Ok s) : Calls Tryz.prog 48 #[.pointer (some ⟨bm, 0, none⟩)] w (StRet w B bm (Tape.stepF s)) := by
  have ha := hok.at_
  have hlen := hok.len
  have HOK := Lib.hid hok
  have HH := Lib.hid h
  obtain ⟨A0, c0, e0, l0, m0, n0, s0⟩ := h.rules
  have HR0 := Lib.hid s0.sl
  have k0 : w.cell? ⟨bm, 0, none⟩ = some (.slice A0 s.rules.length c0) := (h.cell 0).trans e0
  have hbm := h.lt
  have HK0 := Lib.hid k0
  have hle := h.le
  have HLM := Lib.hid (Nat.le_trans l0 m0)
  clear h hok s0 e0 l0 m0 n0 k0
  obtain ⟨R, hR⟩ : ∃ R, R = Tape.stepF s := ⟨_, rfl⟩
  rw [← hR]
  have HR := Lib.hid hR
  clear hR
  go_enter Tryz.func48, Tryz.ntmps48
  go_upto_region 0 with (fail)
  go_cut [1] (fun s1 wx => s1 = .pointer (some ⟨w.heap.size, 0, none⟩) ∧ wx.heap[w.heap.size]? = some (.cells #[.pointer (some ⟨bm, 0, none⟩)] 75 (0, 0)) ∧ Ext w wx)
  case first =>
    go_wp2_with fail
    go_meet
    exact ⟨rfl, heap_alloc_new w _, (Ext.refl w).alloc _⟩
  obtain ⟨rfl, hpb, hx⟩ := hcut
  obtain ⟨wa, rfl⟩ : ∃ wa : World, wa = wc := ⟨_, rfl⟩
  obtain ⟨gb, hgb⟩ : ∃ gb, gb = w.heap.size := ⟨_, rfl⟩
  rw [← hgb] at hpb ⊢
  have HX := Lib.hid hx
  have HPB := Lib.hid hpb
  have kb : wa.cell? ⟨gb, 0, none⟩ = some (.pointer (some ⟨bm, 0, none⟩)) := blk_cell hpb 0
  have k0 := hx.cell HK0.out
  have hbma : bm < wa.heap.size := Nat.lt_of_lt_of_le hbm hx.size
  have hgba : gb < wa.heap.size := (Array.getElem?_eq_some_iff.1 hpb).1
  have HIX := Lib.hid (indexRule_c (HH.out.ext hx) ha gb hpb A0 c0 HLM.out (Rls.ext HR0.out hx))
  clear hx hpb hgb
  go_upto_region 1 with (fail)
  go_cut [2] (fun s2 wx => s2 = .int .i64 (idxR s) ∧ Ext wa wx)
  case first =>
    go_wp2_with (go_at_call 58; refine HIX.out.mono ?_; rintro e w1 ⟨rfl, hx1⟩)
    go_meet
    exact ⟨rfl, hx1⟩
  obtain ⟨rfl, hx1⟩ := hcut
  obtain ⟨wb, rfl⟩ : ∃ wb : World, wb = wc := ⟨_, rfl⟩
  have HX1 := Lib.hid (HX.out.trans hx1)
  have HTB := Lib.hid (HH.out.ext HX1.out)
  have kb1 := hx1.cell kb
  have k01 := hx1.cell k0
  have HPB1 := Lib.hid (ext_heap hx1 HPB.out)
  have hbmb : bm < wb.heap.size := Nat.lt_of_lt_of_le hbma hx1.size
  have hgbb : gb < wb.heap.size := Nat.lt_of_lt_of_le hgba hx1.size
  clear hx1 kb k0
  rcases idxR_rule (s := s) with ⟨hi, hr⟩ | ⟨i, r, hi, hri, hr⟩
  · have HSF : Hid (Tape.stepF s = { s with stop := 2 }) := Lib.hid (by unfold Tape.stepF; rw [hr])
    have k4 := (HTB.out.cell 4).trans HTB.out.stop
    have z4 := HTB.out.frozen 4
    rw [hi]
    clear hi hr
    go_wp2_with fail
    refine bodyPost_end (results_none Tryz.results48 _ _ _) rfl ?_
    exact ⟨rfl, _, _, (by rw [HR.out, HSF.out]; exact HTB.out.setStop 2), Below.setCell (p := ⟨bm, 4, none⟩) (HX1.out.mono (Nat.le_of_lt (Nat.lt_of_le_of_lt hle hbm))) hle _⟩
  have HSF : Hid (Tape.stepF s = Tape.actF s r) := Lib.hid (by unfold Tape.stepF; rw [hr])
  rw [hi]
  have hil : i < s.rules.length := (List.getElem?_eq_some_iff.1 hri).1
  have HRF := Lib.hid (HOK.out.rules r (Tape.ruleOf_mem hr))
  obtain ⟨b, o, rfl, hra⟩ := Rls.at_ (Rls.ext HR0.out HX1.out) hri
  have HRA := Lib.hid hra
  clear hi hr hri hra
  go_upto_region 4 with (fail)
  go_cut [3] (fun s3 wx => s3 = .pointer (some ⟨wb.heap.size, 0, none⟩) ∧ wx.heap[wb.heap.size]? = some (.cells (ruleV r).toArray 54 (0, 0)) ∧ Ext wb wx)
  case first =>
    have HZ := Lib.hid (heap_alloc_new wb (.cells #[.int .i64 0, .int .i64 0, .int .i64 0, .int .i64 0, .int .i64 0] 54))
    go_wp2_with (first | refine wpList_load_cells rfl 54 _ rfl b (o + i * 5) rfl _ (ruleV r) HRA.out.cells Tryz.underlying54 rfl sizeR ?_ | refine wpList_store_row rfl 54 _ _ rfl wb.heap.size (ruleV r).toArray rfl rfl 54 _ HZ.out sizeR rfl (ruleV_one r) ?_)
    go_meet
    exact ⟨rfl, setRow_heap _ _ _ _ _ _ HZ.out, ((Ext.refl wb).alloc _).setRow (Nat.le_refl _) _⟩
  obtain ⟨rfl, hpr, hx2⟩ := hcut
  obtain ⟨gr, hgr⟩ : ∃ gr, gr = wb.heap.size := ⟨_, rfl⟩
  rw [← hgr] at hpr ⊢
  have hst : Stp w wc B bm gb gr s cs vc r := ⟨HTB.out.ext hx2, (HX1.out.trans hx2).mono (Nat.le_of_lt (Nat.lt_of_le_of_lt hle hbm)), ext_heap hx2 HPB1.out, hpr⟩
  clear kb1 k01 hx2 hpr hgr
  obtain ⟨wd, rfl⟩ : ∃ wd : World, wd = wc := ⟨_, rfl⟩
  obtain ⟨p, hp⟩ : ∃ p : Nat, s.at_ = p := ⟨s.at_.toNat, by omega⟩
  obtain ⟨g, cap, hvc⟩ : ∃ g cap, vc = .slice (some ⟨g, 0, none⟩) s.cells.length cap := by
    rcases hst.tm.own.2 with ⟨_, h0⟩ | ⟨g, cap, cur, rfl, _⟩
    · omega
    · exact ⟨g, cap, rfl⟩
  subst hvc
  obtain ⟨n, hn⟩ : ∃ n, n = s.cells.length := ⟨_, rfl⟩
  have HN := Lib.hid hn
  have HP := Lib.hid hp
  have HST := Lib.hid hst
  have fr := rule_fits HRF.out
  obtain ⟨f0, f1, f2, f3, f4, f5, f6, f7, f8, f9⟩ := fr
  have hpn : p < n := by omega
  have hn1 : 1 ≤ n := by omega
  have hn2 : n ≤ 200 := by omega
  have hne1 := hst.nb
  have hne2 := hst.nr
  have kb := hst.cellB
  have k1 : wd.cell? ⟨bm, 1, none⟩ = some (.slice (some ⟨g, 0, none⟩) n cap) := by rw [hn]; exact (hst.tm.cell 1).trans hst.tm.cells
  have k2 : wd.cell? ⟨bm, 2, none⟩ = some (.int .i64 (p : Int)) := (hst.tm.cell 2).trans (by rw [hst.tm.at_, hp])
  have r2 : wd.cell? ⟨gr, 2, none⟩ = some (.int .i64 r.wr) := hst.cellR 2
  have r3 : wd.cell? ⟨gr, 3, none⟩ = some (.int .i64 r.mv) := hst.cellR 3
  have hwt : IntKind.i64.wrap ((p : Int) + r.mv) = (p : Int) + r.mv := IntWalk.i64_in _ (by omega)
  have k4 := (hst.tm.cell 4).trans hst.tm.stop
  have z4 := hst.tm.frozen 4
  have hbmd := hst.tm.lt
  clear hst hn hp ha hlen HK0 HIX HTB HPB HPB1 hbma hgba hbmb hgbb hil
  go_upto_region 5 with (fail)
  go_cut [4] (fun s4 wx => s4 = .int .i64 ((p : Int) + r.mv) ∧ Ext wd wx)
  case first =>
    go_quiet (fail)
    go_wp2_with fail
    go_meet
    exact ⟨rfl, (Ext.refl wd).drewN _⟩
  obtain ⟨rfl, hx3⟩ := hcut
  obtain ⟨we, rfl⟩ : ∃ we : World, we = wc := ⟨_, rfl⟩
  have HS5 := Lib.hid (HST.out.ext hx3)
  have kb5 := hx3.cell kb
  have k15 := hx3.cell k1
  have k25 := hx3.cell k2
  have r25 := hx3.cell r2
  have k45 := hx3.cell k4
  have z45 := HS5.out.tm.frozen 4
  have hbme := HS5.out.tm.lt
  clear hx3 kb k1 k2 r2 r3 k4 z4 hbmd
  go_upto_region 6 with (fail)
  go_cut [46] (fun s46 wx => ∃ bb : Bool, s46 = .bool bb ∧ Hid (bb = true ↔ (((p : Int) + r.mv < 0 ∨ (n : Int) ≤ (p : Int) + r.mv) ∧ 200 ≤ n)) ∧ we = wx)
  case first =>
    cases q1 : inB ((p : Int) + r.mv) 0 ((n : Int) - 1)
    · by_cases q2 : 200 ≤ n
      · go_wp2_with (go_at_call 37; refine (tin_c _ _ _ _).mono ?_; rintro e w' ⟨rfl, rfl⟩)
        go_meet
        exact ⟨true, by simp; omega, Lib.hid (by unfold inB at q1; simp at q1 ⊢; omega), rfl⟩
      · go_wp2_with (go_at_call 37; refine (tin_c _ _ _ _).mono ?_; rintro e w' ⟨rfl, rfl⟩)
        go_meet
        exact ⟨false, by simp; omega, Lib.hid (by simp; omega), rfl⟩
    · go_wp2_with (go_at_call 37; refine (tin_c _ _ _ _).mono ?_; rintro e w' ⟨rfl, rfl⟩)
      go_meet
      exact ⟨false, by simp, Lib.hid (by unfold inB at q1; simp at q1 ⊢; omega), rfl⟩
  obtain ⟨bb, rfl, hbb, rfl⟩ := hcut
  cases bb with
  | true =>
    have HAC : Hid (Tape.actF s r = { s with stop := 3 }) := Lib.hid (by
      have := hbb.out.1 rfl
      unfold Tape.actF
      rw [if_pos]
      rw [HP.out, ← HN.out]
      exact this)
    clear hbb
    go_wp2_with fail
    refine bodyPost_end (results_none Tryz.results48 _ _ _) rfl ?_
    exact ⟨rfl, _, _, (by rw [HR.out, HSF.out, HAC.out]; exact (HS5.out.tm.setStop 3)), (HS5.out.set (HS5.out.tm.setStop 3)).below⟩
  | false =>
  have hnb : ¬ (((p : Int) + r.mv < 0 ∨ (n : Int) ≤ (p : Int) + r.mv) ∧ 200 ≤ n) := fun q => by have := hbb.out.2 q; cases this
  have HNB := Lib.hid hnb
  clear hnb hbb
  have hgm : bm ≠ g := fun e => HS5.out.tm.ownNe (by rw [e]; rfl)
  have hgb2 : gb ≠ g := fun e => own_ne HS5.out.tm.own HS5.out.pb (by decide) (by rw [e]; rfl)
  have hgr2 : gr ≠ g := fun e => own_ne HS5.out.tm.own HS5.out.pr (by decide) (by rw [e]; rfl)
  have hgm' : g ≠ bm := fun e => hgm e.symm
  have hgb3 : g ≠ gb := fun e => hgb2 e.symm
  have hgr3 : g ≠ gr := fun e => hgr2 e.symm
  obtain ⟨x0, hx0⟩ : ∃ x0, s.cells[p]? = some x0 := ⟨_, List.getElem?_eq_getElem (by rw [← HN.out]; exact hpn)⟩
  have kc : we.cell? ⟨g, p, none⟩ = some (.int .i64 x0) := (HS5.out.tm.own.cellAt p (by rw [Nat.mul_one, ← HN.out]; exact hpn)).trans (by rw [List.getElem?_map, hx0]; rfl)
  have zc := HS5.out.tm.own.frozenAt p
  have hgl : g < we.heap.size := (own_lt HS5.out.tm.own rfl).2
  have HP5 := Lib.hid (HS5.out.put p r.wr)
  clear hx0
  go_upto_region 8 with (fail)
  go_cut [] (fun wx => Stp w wx B bm gb gr { s with cells := s.cells.set p r.wr } cs (.slice (some ⟨g, 0, none⟩) s.cells.length cap) r)
  case first =>
    go_region_held3 (fun w' => w'.cell? ⟨gb, 0, none⟩ = some (.pointer (some ⟨bm, 0, none⟩)) ∧ w'.cell? ⟨bm, 1, none⟩ = some (.slice (some ⟨g, 0, none⟩) n cap) ∧ w'.cell? ⟨bm, 2, none⟩ = some (.int .i64 (p : Int)) ∧ w'.cell? ⟨gr, 2, none⟩ = some (.int .i64 r.wr)) ((first | exact ⟨keep_cell kb5 (.inl hgb2), keep_cell k15 (.inl hgm), keep_cell k25 (.inl hgm), keep_cell r25 (.inl hgr2)⟩ | go_keep)) (fail)
    all_goals go_wp2
    all_goals go_meet
    all_goals exact HP5.out.ext ((Ext.refl _).drew)
  obtain ⟨wf, hwf⟩ : ∃ wf : World, wf = wc := ⟨_, rfl⟩
  have HS8 := Lib.hid hcut
  clear hcut kb5 k15 k25 r25 k45 z45 kc zc hgl HP5 hbme
  subst hwf
  obtain ⟨cl0, hcl0⟩ : ∃ cl0, s.cells.set p r.wr = cl0 := ⟨_, rfl⟩
  have HCL := Lib.hid hcl0
  have hlen2 : cl0.length = n := by rw [← hcl0, List.length_set, ← HN.out]
  rw [hcl0] at HS8
  have HL2 := Lib.hid hlen2
  have HOW : Hid (wf.ownsRow B 3 1 (.slice (some ⟨g, 0, none⟩) n cap) (cl0).length ((cl0).map (Value.int .i64))) := Lib.hid (by have := HS8.out.tm.own; rw [HN.out]; exact this)
  have HMV : Hid ((Tape.moved s r) = if (p : Int) + r.mv < 0 then (0 :: cl0, 0) else if (p : Int) + r.mv = n then (cl0 ++ [0], (p : Int) + r.mv) else (cl0, (p : Int) + r.mv)) := Lib.hid (by unfold Tape.moved; rw [HP.out, ← HN.out, Int.toNat_natCast, HCL.out])
  have kb8 := HS8.out.cellB
  have k18 : wf.cell? ⟨bm, 1, none⟩ = some (.slice (some ⟨g, 0, none⟩) n cap) := by rw [HN.out]; exact (HS8.out.tm.cell 1).trans HS8.out.tm.cells
  have hbmf := HS8.out.tm.lt
  have hgbf : gb < wf.heap.size := (Array.getElem?_eq_some_iff.1 HS8.out.pb).1
  have HS8N : Hid (Stp w wf B bm gb gr { s with cells := cl0 } cs (.slice (some ⟨g, 0, none⟩) n cap) r) := Lib.hid (by rw [HN.out]; exact HS8.out)
  obtain ⟨i0, hi0, hz0, hz1, hz2⟩ := info_parts infoI
  have hne2b : gb ≠ bm := fun e => hne1 e.symm
  clear hlen2 hcl0
  go_upto_block 0 with (fail)
  go_cut [4] (fun s4 wx => ∃ cs' vc', s4 = .int .i64 (Tape.moved s r).2 ∧ Stp w wx B bm gb gr { s with cells := (Tape.moved s r).1 } cs' vc' r)
  case first =>
    by_cases c1 : (p : Int) + r.mv < 0
    · have HM1 : Hid (Tape.moved s r = (0 :: cl0, 0)) := Lib.hid (by rw [HMV.out, if_pos c1])
      go_upto_region 10 with (fail)
      refine wp_region_held_drew (S := (fun w' => w'.cell? ⟨gb, 0, none⟩ = some (.pointer (some ⟨bm, 0, none⟩)))) (by kernel_rfl) ?_ (fun hHeld => ?_)
      · exact kb8
      refine wpAnyH_take (i := 0) (oi := { dst := some 64, op := _, type := _, pos := _, after := _, guard := _ }) (v := ?v1001) rfl (by kernel_rfl) (by kernel_rfl) (by kernel_rfl) (fun _ _ _ h => h) (Or.inl ⟨by rfl, ?hy1001⟩) (by assumption) ?rest1001
      case hy1001 => (intro w hSw; (try dsimp only at hSw); go_simp; (try with_reducible rfl))
      try simp only [Act.put, List.setIfInBounds_toArray, List.set_cons_zero, List.set_cons_succ]
      refine wpAnyH_take (i := 1) (oi := { dst := some 65, op := _, type := _, pos := _, after := _, guard := _ }) (v := ?v1002) rfl (by kernel_rfl) (by kernel_rfl) (by kernel_rfl) (fun _ _ _ h => h) (Or.inl ⟨by rfl, ?hy1002⟩) (by assumption) ?rest1002
      case hy1002 => (intro w hSw; (try dsimp only at hSw); go_simp; (try with_reducible rfl))
      try simp only [Act.put, List.setIfInBounds_toArray, List.set_cons_zero, List.set_cons_succ]
      refine wpAnyH_take (i := 2) (oi := { dst := some 66, op := _, type := _, pos := _, after := _, guard := _ }) (v := ?v1003) rfl (by kernel_rfl) (by kernel_rfl) (by kernel_rfl) (fun _ _ _ h => h) (Or.inl ⟨by rfl, ?hy1003⟩) (by assumption) ?rest1003
      case hy1003 => (intro w hSw; (try dsimp only at hSw); go_simp; (try with_reducible rfl))
      try simp only [Act.put, List.setIfInBounds_toArray, List.set_cons_zero, List.set_cons_succ]
      refine wpAnyH_take (i := 3) (oi := { dst := some 67, op := _, type := _, pos := _, after := _, guard := _ }) (v := ?v1004) rfl (by kernel_rfl) (by kernel_rfl) (by kernel_rfl) (fun _ _ _ h => h) (Or.inl ⟨by rfl, ?hy1004⟩) (by assumption) ?rest1004
      case hy1004 => (intro w hSw; (try dsimp only at hSw); go_simp; (try with_reducible rfl))
      try simp only [Act.put, List.setIfInBounds_toArray, List.set_cons_zero, List.set_cons_succ]
      refine wpAnyH_ready (rs := [4, 5]) (by kernel_rfl) (by simp) ?_
      refine (AllReadyH.cons (o := { dst := some 68, op := _, type := _, pos := _, after := _, guard := _ }) rfl (fun K hK => ?_) (AllReadyH.cons (o := { dst := some 69, op := _, type := _, pos := _, after := _, guard := _ }) rfl (fun K hK => ?_) AllReadyH.nil))
      · go_simp
        refine hK.out _ _ ?_ (fun hHeld => ?_)
        · (first | exact hHeld | exact kb8)
        clear hK K
        try simp only [Act.put, List.setIfInBounds_toArray, List.set_cons_zero, List.set_cons_succ]
        refine wpAnyH_ready (rs := [5]) (by kernel_rfl) (by simp) ?_
        refine (AllReadyH.cons (o := { dst := some 69, op := _, type := _, pos := _, after := _, guard := _ }) rfl (fun K hK => ?_) AllReadyH.nil)
        · go_simp
          refine hK.out _ _ ?_ (fun hHeld => ?_)
          · (first | exact ((((Ext.refl _).drew).alloc _).cell kb8) | exact ((((Ext.refl _).alloc _).drew).cell kb8) | exact (((Ext.refl _).alloc _).cell kb8))
          clear hK K
          try simp only [Act.put, List.setIfInBounds_toArray, List.set_cons_zero, List.set_cons_succ]
          refine wpAnyH_ready (rs := [6]) (by kernel_rfl) (by simp) ?_
          refine (AllReadyH.cons (o := { dst := some 70, op := _, type := _, pos := _, after := _, guard := _ }) rfl (fun K hK => ?_) AllReadyH.nil)
          · go_simp
            (go_at_call 60; refine (Stp.ins HS8N.out (by rw [HL2.out]; omega) (by rw [HL2.out]; omega) (by first | exact ((Ext.refl _).alloc _).drew | exact ((Ext.refl _).drew).alloc _ | exact (Ext.refl _).alloc _) (by first | exact heap_alloc_new wf _)).mono ?_; rintro e w1 ⟨A', c', rfl, a1, a2, a3, a4, hs0⟩; have HS0 := Lib.hid hs0; clear hs0)
            go_wp2_with fail
            refine hK.out _ _ ?_ (fun hHeld => ?_)
            · exact a1
            clear hK K
            try simp only [Act.put, List.setIfInBounds_toArray, List.set_cons_zero, List.set_cons_succ]
            refine wpAnyH_take (i := 7) (oi := { dst := some 71, op := _, type := _, pos := _, after := _, guard := _ }) (v := ?v1005) rfl (by kernel_rfl) (by kernel_rfl) (by kernel_rfl) (fun _ _ _ h => h) (Or.inl ⟨by rfl, ?hy1005⟩) (by assumption) ?rest1005
            case hy1005 => (intro w hSw; (try dsimp only at hSw); go_simp; (try with_reducible rfl))
            try simp only [Act.put, List.setIfInBounds_toArray, List.set_cons_zero, List.set_cons_succ]
            refine wpAnyH_take (i := 8) (oi := { dst := some 72, op := _, type := _, pos := _, after := _, guard := _ }) (v := ?v1006) rfl (by kernel_rfl) (by kernel_rfl) (by kernel_rfl) (fun _ _ _ h => h) (Or.inl ⟨by rfl, ?hy1006⟩) (by assumption) ?rest1006
            case hy1006 => (intro w hSw; (try dsimp only at hSw); go_simp; (try with_reducible rfl))
            try simp only [Act.put, List.setIfInBounds_toArray, List.set_cons_zero, List.set_cons_succ]
            refine wpAnyH_ready (rs := [9]) (by kernel_rfl) (by simp) ?_
            refine (AllReadyH.cons (o := { dst := none, op := _, type := _, pos := _, after := _, guard := _ }) rfl (fun K hK => ?_) AllReadyH.nil)
            · go_simp
              refine hK.out _ _ ?_ (fun hHeld => ?_)
              · exact keep_cell a1 (.inl hne2b)
              clear hK K
              try simp only [Act.put, List.setIfInBounds_toArray, List.set_cons_zero, List.set_cons_succ]
              refine wpAnyH_done (by kernel_rfl) ?_ _
              go_wp2
              all_goals go_meet
              all_goals rw [HM1.out]
              all_goals exact ⟨_, _, rfl, HS0.out⟩
      · go_simp
        refine hK.out _ _ ?_ (fun hHeld => ?_)
        · (first | exact ((((Ext.refl _).drew).alloc _).cell kb8) | exact ((((Ext.refl _).alloc _).drew).cell kb8) | exact (((Ext.refl _).alloc _).cell kb8))
        clear hK K
        try simp only [Act.put, List.setIfInBounds_toArray, List.set_cons_zero, List.set_cons_succ]
        refine wpAnyH_ready (rs := [4]) (by kernel_rfl) (by simp) ?_
        refine (AllReadyH.cons (o := { dst := some 68, op := _, type := _, pos := _, after := _, guard := _ }) rfl (fun K hK => ?_) AllReadyH.nil)
        · go_simp
          refine hK.out _ _ ?_ (fun hHeld => ?_)
          · (first | exact hHeld | exact kb8)
          clear hK K
          try simp only [Act.put, List.setIfInBounds_toArray, List.set_cons_zero, List.set_cons_succ]
          refine wpAnyH_ready (rs := [6]) (by kernel_rfl) (by simp) ?_
          refine (AllReadyH.cons (o := { dst := some 70, op := _, type := _, pos := _, after := _, guard := _ }) rfl (fun K hK => ?_) AllReadyH.nil)
          · go_simp
            (go_at_call 60; refine (Stp.ins HS8N.out (by rw [HL2.out]; omega) (by rw [HL2.out]; omega) (by first | exact ((Ext.refl _).alloc _).drew | exact ((Ext.refl _).drew).alloc _ | exact (Ext.refl _).alloc _) (by first | exact heap_alloc_new wf _)).mono ?_; rintro e w1 ⟨A', c', rfl, a1, a2, a3, a4, hs0⟩; have HS0 := Lib.hid hs0; clear hs0)
            go_wp2_with fail
            refine hK.out _ _ ?_ (fun hHeld => ?_)
            · exact a1
            clear hK K
            try simp only [Act.put, List.setIfInBounds_toArray, List.set_cons_zero, List.set_cons_succ]
            refine wpAnyH_take (i := 7) (oi := { dst := some 71, op := _, type := _, pos := _, after := _, guard := _ }) (v := ?v1007) rfl (by kernel_rfl) (by kernel_rfl) (by kernel_rfl) (fun _ _ _ h => h) (Or.inl ⟨by rfl, ?hy1007⟩) (by assumption) ?rest1007
            case hy1007 => (intro w hSw; (try dsimp only at hSw); go_simp; (try with_reducible rfl))
            try simp only [Act.put, List.setIfInBounds_toArray, List.set_cons_zero, List.set_cons_succ]
            refine wpAnyH_take (i := 8) (oi := { dst := some 72, op := _, type := _, pos := _, after := _, guard := _ }) (v := ?v1008) rfl (by kernel_rfl) (by kernel_rfl) (by kernel_rfl) (fun _ _ _ h => h) (Or.inl ⟨by rfl, ?hy1008⟩) (by assumption) ?rest1008
            case hy1008 => (intro w hSw; (try dsimp only at hSw); go_simp; (try with_reducible rfl))
            try simp only [Act.put, List.setIfInBounds_toArray, List.set_cons_zero, List.set_cons_succ]
            refine wpAnyH_ready (rs := [9]) (by kernel_rfl) (by simp) ?_
            refine (AllReadyH.cons (o := { dst := none, op := _, type := _, pos := _, after := _, guard := _ }) rfl (fun K hK => ?_) AllReadyH.nil)
            · go_simp
              refine hK.out _ _ ?_ (fun hHeld => ?_)
              · exact keep_cell a1 (.inl hne2b)
              clear hK K
              try simp only [Act.put, List.setIfInBounds_toArray, List.set_cons_zero, List.set_cons_succ]
              refine wpAnyH_done (by kernel_rfl) ?_ _
              go_wp2
              all_goals go_meet
              all_goals rw [HM1.out]
              all_goals exact ⟨_, _, rfl, HS0.out⟩
    · by_cases c2 : (p : Int) + r.mv = n
      · have HM1 : Hid (Tape.moved s r = (cl0 ++ [0], (p : Int) + r.mv)) := Lib.hid (by rw [HMV.out, if_neg c1, if_pos c2])
        have HC2 : Hid ((n : Int) = (p : Int) + r.mv) := Lib.hid c2.symm
        have HW : Hid (Stp w (wf.alloc (.cells #[.int .i64 0] 3)).drew B bm gb gr { s with cells := cl0 } cs (.slice (some ⟨g, 0, none⟩) n cap) r) := Lib.hid (HS8N.out.ext (((Ext.refl wf).alloc _).drew))
        have HOWN : Hid ((wf.alloc (.cells #[.int .i64 0] 3)).drew.ownsRow B 3 1 (.slice (some ⟨g, 0, none⟩) n cap) cl0.length (cl0.map (Value.int .i64))) := Lib.hid HW.out.tm.own
        have HSL : Hid (SlC (wf.alloc (.cells #[.int .i64 0] 3)).drew (some ⟨wf.heap.size, 0, none⟩) [.int .i64 0]) := Lib.hid (slc_new wf [.int .i64 0] 3)
        have HONE : Hid (∀ u ∈ ([.int .i64 0] : List Value), u.oneCell' = true) := Lib.hid (by simp [Value.oneCell'])
        have HB1 : Hid (cl0.length + 1 ≤ maxLen) := Lib.hid (by rw [HL2.out]; unfold maxLen; omega)
        have HB2 : Hid ((cl0.length + 1) * 8 ≤ 140737488355328) := Lib.hid (by rw [HL2.out]; omega)
        have HB3 : Hid (B ≤ (wf.alloc (.cells #[.int .i64 0] 3)).drew.heap.size) := Lib.hid (Nat.le_trans HW.out.tm.le (Nat.le_of_lt HW.out.tm.lt))
        go_upto_region 13 with (fail)
        refine wp_region_held_drew (S := (fun w' => w'.cell? ⟨gb, 0, none⟩ = some (.pointer (some ⟨bm, 0, none⟩)))) (by kernel_rfl) ?_ (fun hHeld => ?_)
        · exact kb8
        refine wpAnyH_take (i := 0) (oi := { dst := some 81, op := _, type := _, pos := _, after := _, guard := _ }) (v := ?v1301) rfl (by kernel_rfl) (by kernel_rfl) (by kernel_rfl) (fun _ _ _ h => h) (Or.inl ⟨by rfl, ?hy1301⟩) (by assumption) ?rest1301
        case hy1301 => (intro w hSw; (try dsimp only at hSw); go_simp; (try with_reducible rfl))
        try simp only [Act.put, List.setIfInBounds_toArray, List.set_cons_zero, List.set_cons_succ]
        refine wpAnyH_take (i := 1) (oi := { dst := some 82, op := _, type := _, pos := _, after := _, guard := _ }) (v := ?v1302) rfl (by kernel_rfl) (by kernel_rfl) (by kernel_rfl) (fun _ _ _ h => h) (Or.inl ⟨by rfl, ?hy1302⟩) (by assumption) ?rest1302
        case hy1302 => (intro w hSw; (try dsimp only at hSw); go_simp; (try with_reducible rfl))
        try simp only [Act.put, List.setIfInBounds_toArray, List.set_cons_zero, List.set_cons_succ]
        refine wpAnyH_take (i := 2) (oi := { dst := some 83, op := _, type := _, pos := _, after := _, guard := _ }) (v := ?v1303) rfl (by kernel_rfl) (by kernel_rfl) (by kernel_rfl) (fun _ _ _ h => h) (Or.inl ⟨by rfl, ?hy1303⟩) (by assumption) ?rest1303
        case hy1303 => (intro w hSw; (try dsimp only at hSw); go_simp; (try with_reducible rfl))
        try simp only [Act.put, List.setIfInBounds_toArray, List.set_cons_zero, List.set_cons_succ]
        refine wpAnyH_take (i := 3) (oi := { dst := some 84, op := _, type := _, pos := _, after := _, guard := _ }) (v := ?v1304) rfl (by kernel_rfl) (by kernel_rfl) (by kernel_rfl) (fun _ _ _ h => h) (Or.inl ⟨by rfl, ?hy1304⟩) (by assumption) ?rest1304
        case hy1304 => (intro w hSw; (try dsimp only at hSw); go_simp; (try with_reducible rfl))
        try simp only [Act.put, List.setIfInBounds_toArray, List.set_cons_zero, List.set_cons_succ]
        refine wpAnyH_ready (rs := [4, 5]) (by kernel_rfl) (by simp) ?_
        refine (AllReadyH.cons (o := { dst := some 85, op := _, type := _, pos := _, after := _, guard := _ }) rfl (fun K hK => ?_) (AllReadyH.cons (o := { dst := some 86, op := _, type := _, pos := _, after := _, guard := _ }) rfl (fun K hK => ?_) AllReadyH.nil))
        · go_simp
          refine hK.out _ _ ?_ (fun hHeld => ?_)
          · (first | exact hHeld | exact kb8)
          clear hK K
          try simp only [Act.put, List.setIfInBounds_toArray, List.set_cons_zero, List.set_cons_succ]
          refine wpAnyH_ready (rs := [5]) (by kernel_rfl) (by simp) ?_
          refine (AllReadyH.cons (o := { dst := some 86, op := _, type := _, pos := _, after := _, guard := _ }) rfl (fun K hK => ?_) AllReadyH.nil)
          · go_simp
            refine hK.out _ _ ?_ (fun hHeld => ?_)
            · (first | exact ((((Ext.refl _).drew).alloc _).cell kb8) | exact ((((Ext.refl _).alloc _).drew).cell kb8) | exact (((Ext.refl _).alloc _).cell kb8))
            clear hK K
            try simp only [Act.put, List.setIfInBounds_toArray, List.set_cons_zero, List.set_cons_succ]
            refine wpAnyH_ready (rs := [6]) (by kernel_rfl) (by simp) ?_
            refine (AllReadyH.cons (o := { dst := some 87, op := _, type := _, pos := _, after := _, guard := _ }) rfl (fun K hK => ?_) AllReadyH.nil)
            · refine step_append_sl rfl _ _ 23 rfl B 3 i0 (.int .i64 0) 1 8 Tryz.underlying23 hi0 hz0 hz1 hz2 rfl (by decide) (.slice (some ⟨g, 0, none⟩) n cap) cl0.length (cl0.map (Value.int .i64)) (by rfl) HOWN.out (some ⟨wf.heap.size, 0, none⟩) 1 1 [.int .i64 0] (by rfl) HSL.out rfl HONE.out HB1.out HB2.out HB3.out ?_
              intro v' w1 ho3 hg3 hat3
              obtain ⟨A', c', rfl, a1, a2, a3, a4, hs0⟩ := HW.out.app ho3 hg3 hat3
              have HS0 := Lib.hid hs0
              clear hs0 ho3 hg3 hat3
              refine hK.out _ _ ?_ (fun hHeld => ?_)
              · exact a1
              clear hK K
              try simp only [Act.put, List.setIfInBounds_toArray, List.set_cons_zero, List.set_cons_succ]
              refine wpAnyH_take (i := 7) (oi := { dst := some 88, op := _, type := _, pos := _, after := _, guard := _ }) (v := ?v1305) rfl (by kernel_rfl) (by kernel_rfl) (by kernel_rfl) (fun _ _ _ h => h) (Or.inl ⟨by rfl, ?hy1305⟩) (by assumption) ?rest1305
              case hy1305 => (intro w hSw; (try dsimp only at hSw); go_simp; (try with_reducible rfl))
              try simp only [Act.put, List.setIfInBounds_toArray, List.set_cons_zero, List.set_cons_succ]
              refine wpAnyH_take (i := 8) (oi := { dst := some 89, op := _, type := _, pos := _, after := _, guard := _ }) (v := ?v1306) rfl (by kernel_rfl) (by kernel_rfl) (by kernel_rfl) (fun _ _ _ h => h) (Or.inl ⟨by rfl, ?hy1306⟩) (by assumption) ?rest1306
              case hy1306 => (intro w hSw; (try dsimp only at hSw); go_simp; (try with_reducible rfl))
              try simp only [Act.put, List.setIfInBounds_toArray, List.set_cons_zero, List.set_cons_succ]
              refine wpAnyH_ready (rs := [9]) (by kernel_rfl) (by simp) ?_
              refine (AllReadyH.cons (o := { dst := none, op := _, type := _, pos := _, after := _, guard := _ }) rfl (fun K hK => ?_) AllReadyH.nil)
              · go_simp
                refine hK.out _ _ ?_ (fun hHeld => ?_)
                · exact keep_cell a1 (.inl hne2b)
                clear hK K
                try simp only [Act.put, List.setIfInBounds_toArray, List.set_cons_zero, List.set_cons_succ]
                refine wpAnyH_done (by kernel_rfl) ?_ _
                go_wp2
                all_goals go_meet
                all_goals rw [HM1.out]
                all_goals exact ⟨_, _, congrArg (Value.int .i64) HC2.out, HS0.out⟩
        · go_simp
          refine hK.out _ _ ?_ (fun hHeld => ?_)
          · (first | exact ((((Ext.refl _).drew).alloc _).cell kb8) | exact ((((Ext.refl _).alloc _).drew).cell kb8) | exact (((Ext.refl _).alloc _).cell kb8))
          clear hK K
          try simp only [Act.put, List.setIfInBounds_toArray, List.set_cons_zero, List.set_cons_succ]
          refine wpAnyH_ready (rs := [4]) (by kernel_rfl) (by simp) ?_
          refine (AllReadyH.cons (o := { dst := some 85, op := _, type := _, pos := _, after := _, guard := _ }) rfl (fun K hK => ?_) AllReadyH.nil)
          · go_simp
            refine hK.out _ _ ?_ (fun hHeld => ?_)
            · (first | exact hHeld | exact kb8)
            clear hK K
            try simp only [Act.put, List.setIfInBounds_toArray, List.set_cons_zero, List.set_cons_succ]
            refine wpAnyH_ready (rs := [6]) (by kernel_rfl) (by simp) ?_
            refine (AllReadyH.cons (o := { dst := some 87, op := _, type := _, pos := _, after := _, guard := _ }) rfl (fun K hK => ?_) AllReadyH.nil)
            · refine step_append_sl rfl _ _ 23 rfl B 3 i0 (.int .i64 0) 1 8 Tryz.underlying23 hi0 hz0 hz1 hz2 rfl (by decide) (.slice (some ⟨g, 0, none⟩) n cap) cl0.length (cl0.map (Value.int .i64)) (by rfl) HOWN.out (some ⟨wf.heap.size, 0, none⟩) 1 1 [.int .i64 0] (by rfl) HSL.out rfl HONE.out HB1.out HB2.out HB3.out ?_
              intro v' w1 ho3 hg3 hat3
              obtain ⟨A', c', rfl, a1, a2, a3, a4, hs0⟩ := HW.out.app ho3 hg3 hat3
              have HS0 := Lib.hid hs0
              clear hs0 ho3 hg3 hat3
              refine hK.out _ _ ?_ (fun hHeld => ?_)
              · exact a1
              clear hK K
              try simp only [Act.put, List.setIfInBounds_toArray, List.set_cons_zero, List.set_cons_succ]
              refine wpAnyH_take (i := 7) (oi := { dst := some 88, op := _, type := _, pos := _, after := _, guard := _ }) (v := ?v1307) rfl (by kernel_rfl) (by kernel_rfl) (by kernel_rfl) (fun _ _ _ h => h) (Or.inl ⟨by rfl, ?hy1307⟩) (by assumption) ?rest1307
              case hy1307 => (intro w hSw; (try dsimp only at hSw); go_simp; (try with_reducible rfl))
              try simp only [Act.put, List.setIfInBounds_toArray, List.set_cons_zero, List.set_cons_succ]
              refine wpAnyH_take (i := 8) (oi := { dst := some 89, op := _, type := _, pos := _, after := _, guard := _ }) (v := ?v1308) rfl (by kernel_rfl) (by kernel_rfl) (by kernel_rfl) (fun _ _ _ h => h) (Or.inl ⟨by rfl, ?hy1308⟩) (by assumption) ?rest1308
              case hy1308 => (intro w hSw; (try dsimp only at hSw); go_simp; (try with_reducible rfl))
              try simp only [Act.put, List.setIfInBounds_toArray, List.set_cons_zero, List.set_cons_succ]
              refine wpAnyH_ready (rs := [9]) (by kernel_rfl) (by simp) ?_
              refine (AllReadyH.cons (o := { dst := none, op := _, type := _, pos := _, after := _, guard := _ }) rfl (fun K hK => ?_) AllReadyH.nil)
              · go_simp
                refine hK.out _ _ ?_ (fun hHeld => ?_)
                · exact keep_cell a1 (.inl hne2b)
                clear hK K
                try simp only [Act.put, List.setIfInBounds_toArray, List.set_cons_zero, List.set_cons_succ]
                refine wpAnyH_done (by kernel_rfl) ?_ _
                go_wp2
                all_goals go_meet
                all_goals rw [HM1.out]
                all_goals exact ⟨_, _, congrArg (Value.int .i64) HC2.out, HS0.out⟩
      · have HM1 : Hid (Tape.moved s r = (cl0, (p : Int) + r.mv)) := Lib.hid (by rw [HMV.out, if_neg c1, if_neg c2])
        have c3 : ((p : Int) + r.mv == (n : Int)) = false := by simpa using c2
        clear c2
        go_wp2_with fail
        go_meet
        rw [HM1.out]
        exact ⟨cs, _, rfl, HS8.out⟩
  obtain ⟨cs9, vc9, rfl, hs9⟩ := hcut
  obtain ⟨wg, hwg⟩ : ∃ wg : World, wg = wc := ⟨_, rfl⟩
  have HS9 := Lib.hid hs9
  have HAC : Hid (Tape.actF s r = if r.nx < 0 then { s with cells := (Tape.moved s r).1, at_ := (Tape.moved s r).2, stop := 1 } else { s with cells := (Tape.moved s r).1, at_ := (Tape.moved s r).2, state := r.nx }) := Lib.hid (by
    unfold Tape.actF
    rw [if_neg]
    rw [HP.out, ← HN.out]
    exact HNB.out)
  generalize hto : (Tape.moved s r).2 = tz at *
  generalize hcl : (Tape.moved s r).1 = cl at *
  have kb9 := hs9.cellB
  have k29 : wc.cell? ⟨bm, 2, none⟩ = some (.int .i64 s.at_) := (hs9.tm.cell 2).trans hs9.tm.at_
  have k39 : wc.cell? ⟨bm, 3, none⟩ = some (.int .i64 s.state) := (hs9.tm.cell 3).trans hs9.tm.state
  have k49 : wc.cell? ⟨bm, 4, none⟩ = some (.int .i64 s.stop) := (hs9.tm.cell 4).trans hs9.tm.stop
  have r49 : wc.cell? ⟨gr, 4, none⟩ = some (.int .i64 r.nx) := hs9.cellR 4
  have z29 := hs9.tm.frozen 2
  have z39 := hs9.tm.frozen 3
  have z49 := hs9.tm.frozen 4
  have hbm9 := hs9.tm.lt
  have hne3 : gb ≠ bm := fun e => hne1 e.symm
  have hne4 : gr ≠ bm := fun e => hne2 e.symm
  have HT2 := Lib.hid (hs9.set (hs9.tm.setAt tz))
  clear hs9 kb8 k18 hto hcl
  subst hwg
  by_cases hnx : r.nx < 0
  · have HRE : Hid (R = { s with cells := cl, at_ := tz, stop := 1 }) := Lib.hid (by rw [HR.out, HSF.out, HAC.out, if_pos hnx])
    go_wp2_with fail
    refine bodyPost_end (results_none Tryz.results48 _ _ _) rfl ?_
    exact ⟨rfl, _, _, by rw [HRE.out]; exact HT2.out.tm.setStop 1, (HT2.out.set (HT2.out.tm.setStop 1)).below⟩
  · have HRE : Hid (R = { s with cells := cl, at_ := tz, state := r.nx }) := Lib.hid (by rw [HR.out, HSF.out, HAC.out, if_neg hnx])
    go_wp2_with fail
    refine bodyPost_end (results_none Tryz.results48 _ _ _) rfl ?_
    exact ⟨rfl, _, _, by rw [HRE.out]; exact HT2.out.tm.setState r.nx, (HT2.out.set (HT2.out.tm.setState r.nx)).below⟩
end Go.Proofs.YtbaahbpianingaaGreatDoor
