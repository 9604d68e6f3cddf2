import Derived.Test.YtbaahbpianingaaDoorTqH
namespace Go.Proofs.YtbaahbpianingaaDoor
open Go Go.Proofs Go.RowKit
open Tape (Rule Ts)
set_option maxHeartbeats 12800000
set_option maxRecDepth 100000
theorem actF_full {s : Ts} {r : Rule} (h1 : s.at_ + r.mv < 0 ∨ (s.cells.length : Int) ≤ s.at_ + r.mv) (h2 : 200 ≤ s.cells.length) : Tape.actF s r = { s with stop := 3 } := by
  unfold Tape.actF; rw [if_pos ⟨h1, h2⟩]
theorem actF_go {s : Ts} {r : Rule} (h : ¬ ((s.at_ + r.mv < 0 ∨ (s.cells.length : Int) ≤ s.at_ + r.mv) ∧ 200 ≤ s.cells.length)) : Tape.actF s r = if r.nx < 0 then { s with cells := (Tape.moved s r).1, at_ := (Tape.moved s r).2, stop := 1 } else { s with cells := (Tape.moved s r).1, at_ := (Tape.moved s r).2, state := r.nx } := by
  unfold Tape.actF; rw [if_neg h]
/-- A row is being filled, and the rule lies in its block. -/
structure TFr (w wx : World) (cs : Array Value) (l : List Int) (v : Value) (gr : Nat) (r : Rule) : Prop where
  t : TFl w wx cs l v
  rb : wx.heap[gr]? = some (.cells (ruleV r).toArray 88 (0, 0))
theorem TFr.add {w wx w3 : World} {cs : Array Value} {l : List Int} {v v3 : Value} {i : Int} {o : Obj} {gr : Nat} {r : Rule} (h : TFr w wx cs l v gr r)
    (ho : w3.ownsRow (w.heap.size + 2) 3 1 v3 (l.length + 1) (l.map (Value.int .i64) ++ [.int .i64 i])) (hg : (wx.alloc o).grownBy w3 v.ownBlock) : TFr w w3 cs (l ++ [i]) v3 gr r := by
  have hlt := (Array.getElem?_eq_some_iff.1 h.rb).1
  refine ⟨h.t.add ho hg, ?_⟩
  rw [hg.block gr (by simp; omega) (fun e => own_ne h.t.own h.rb (by decide) e.symm)]
  exact ext_heap ((Ext.refl wx).alloc o) h.rb
theorem TFr.box {w wx : World} {cs : Array Value} {l : List Int} {v : Value} {gr : Nat} {r : Rule} (h : TFr w wx cs l v gr r) : TBox w wx cs := h.t.t
theorem tapeStep_c (bad : Nat → Prop) (cs : Array Value) (s : Ts) (w : World) (hbad : ∀ g, bad g → g < w.heap.size) (h : TsAv bad w cs s) (hok : Tape.Ok s) : Calls Tryd.prog 58 #[.agg cs] w (TpRet bad w (Tape.stepF s)) := by
  have HBAD := Lib.hid hbad
  have HOK := Lib.hid hok
  have HAV := Lib.hid h
  have hlen := hok.len
  have hat := hok.at_
  obtain ⟨R, hR⟩ : ∃ R, R = Tape.stepF s := ⟨_, rfl⟩
  rw [← hR]
  have HR := Lib.hid hR
  obtain ⟨n, hn⟩ : ∃ n, n = s.rules.length := ⟨_, rfl⟩
  obtain ⟨m, hm⟩ : ∃ m, m = s.cells.length := ⟨_, rfl⟩
  obtain ⟨p, hp⟩ : ∃ p : Nat, s.at_ = p := ⟨s.at_.toNat, by omega⟩
  obtain ⟨cv, hcv⟩ : ∃ cv, Tape.cellAt s = cv := ⟨_, rfl⟩
  obtain ⟨A0, c0, e0, l0, m0, -, -⟩ := h.st.rules
  obtain ⟨A1, c1, e1, l1, m1, -, -⟩ := h.st.cells
  have e2 : cs[2]? = some (.int .i64 (p : Int)) := by rw [← hp]; exact h.st.at_
  have e3 := h.st.state
  have e4 := h.st.stop
  rw [← hn] at e0 l0
  rw [← hm] at e1 l1
  have hnl := Nat.le_trans l0 m0
  unfold maxLen at hnl
  have hm1 : 1 ≤ m := by omega
  have hm2 : m ≤ 200 := by omega
  have hpm : p < m := by omega
  have HN := Lib.hid hn
  have HM := Lib.hid hm
  have HP := Lib.hid hp
  have HCV := Lib.hid hcv
  have HE0 := Lib.hid e0
  have HE1 := Lib.hid e1
  have HS1 : Hid (∀ W, TsIs W cs s → ∃ b o, A1 = some ⟨b, o, none⟩ ∧ W.cell? ⟨b, o + p, none⟩ = some (.int .i64 cv)) := Lib.hid (fun W hW => by
    obtain ⟨b, o, hA, hc⟩ := (hW.sl e1).at_ (i := p) (by omega)
    refine ⟨b, o, hA, ?_⟩
    rw [hc, ← hcv]
    unfold Tape.cellAt
    rw [hp, Int.toNat_natCast])
  obtain ⟨b1, o1, hA1, -⟩ := HS1.out w h.st
  clear hR hn hm hp hcv h hbad hok hlen hat l0 l1 m0 m1
  go_enter Tryd.func58, Tryd.ntmps58
  go_upto_region 0 with (fail)
  go_cut [1, 2] (fun s1 s2 wx => s1 = .pointer (some ⟨w.heap.size, 0, none⟩) ∧ s2 = .pointer (some ⟨w.heap.size + 1, 0, none⟩) ∧ TBox w wx cs)
  case first =>
    go_wp2_with (refine wpList_allocQ rfl rfl ?_)
    go_meet
    exact ⟨rfl, by simp, TBox.mk0 w cs⟩
  obtain ⟨rfl, rfl, ht⟩ := hcut
  have HT0 := Lib.hid ht
  clear ht
  go_wp2_with fail
  go_loopw [3] (fun t3 wx => ∃ k : Nat, k ≤ n ∧ t3 = .int .i64 k ∧ TBox w wx cs ∧ Hid (noneR s k)) (fun t3 _ => n - (intOf t3).toNat)
  case atStart => exact ⟨0, Nat.zero_le _, rfl, HT0.out, Lib.hid (fun i r hi => by omega)⟩
  case round =>
  obtain ⟨k, hk, rfl, ht, hno⟩ := hrel
  have HT := Lib.hid ht
  have k0 : wr.cell? ⟨w.heap.size, 0, none⟩ = some (.slice A0 n c0) := (ht.cell 0).trans e0
  have hltr := ht.lt
  clear ht
  by_cases hlt : k < n
  · obtain ⟨r, hr⟩ : ∃ r, s.rules[k]? = some r := ⟨_, List.getElem?_eq_getElem (by rw [← HN.out]; exact hlt)⟩
    obtain ⟨b0, o0, rfl, hra⟩ := Rls.at_ ((HAV.out.st.ext HT.out.x).rls HE0.out) hr
    have HRA := Lib.hid hra
    have HRR := Lib.hid hr
    have HRF := Lib.hid (rule_fits (HOK.out.rules r (List.mem_of_getElem? hr)))
    clear hra hr
    go_upto_region 4 with (fail)
    go_cut [4] (fun s4 wx => s4 = .pointer (some ⟨wr.heap.size, 0, none⟩) ∧ wx.heap[wr.heap.size]? = some (.cells (ruleV r).toArray 88 (0, 0)) ∧ Ext wr wx)
    case first =>
      have HZ := Lib.hid (heap_alloc_new wr (.cells #[.int .i64 0, .int .i64 0, .int .i64 0, .int .i64 0, .int .i64 0] 88))
      go_wp2_with (first | refine wpList_load_cells rfl 88 _ rfl b0 (o0 + k * 5) rfl _ (ruleV r) HRA.out.cells Tryd.underlying88 rfl sizeR ?_ | refine wpList_store_row rfl 88 _ _ rfl wr.heap.size (ruleV r).toArray rfl rfl 88 _ HZ.out sizeR rfl (ruleV_one r) ?_)
      go_meet
      exact ⟨rfl, setRow_heap _ _ _ _ _ _ HZ.out, ((Ext.refl wr).alloc _).setRow (Nat.le_refl _) _⟩
    obtain ⟨rfl, hbr, hxa⟩ := hcut
    obtain ⟨wa, rfl⟩ : ∃ wa : World, wa = wc := ⟨_, rfl⟩
    obtain ⟨gr, hgr⟩ : ∃ gr, wr.heap.size = gr := ⟨_, rfl⟩
    rw [hgr] at hbr ⊢
    have HGR : Hid (w.heap.size + 2 ≤ gr) := Lib.hid (by omega)
    have HTA := Lib.hid (HT.out.ext hxa)
    have HRB := Lib.hid hbr
    have hlta := HTA.out.lt
    have hltg : gr < wa.heap.size := (Array.getElem?_eq_some_iff.1 hbr).1
    have r0 : wa.cell? ⟨gr, 0, none⟩ = some (.int .i64 r.st) := blk_cell hbr 0
    have r1 : wa.cell? ⟨gr, 1, none⟩ = some (.int .i64 r.sy) := blk_cell hbr 1
    have k1 : wa.cell? ⟨w.heap.size, 1, none⟩ = some (.slice A1 m c1) := (HTA.out.cell 1).trans e1
    have k2 : wa.cell? ⟨w.heap.size, 2, none⟩ = some (.int .i64 (p : Int)) := (HTA.out.cell 2).trans e2
    have k3 : wa.cell? ⟨w.heap.size, 3, none⟩ = some (.int .i64 s.state) := (HTA.out.cell 3).trans e3
    obtain ⟨b1', o1', hA1', hcell⟩ := HS1.out wa (HAV.out.st.ext HTA.out.x)
    rw [hA1] at hA1'
    cases hA1'
    rw [hA1] at k1
    clear hxa hbr k0 hgr
    go_upto_region 5 with (fail)
    go_cut [35] (fun s35 wx => ∃ bb : Bool, s35 = .bool bb ∧ Hid (bb = !Tape.fits s r) ∧ Ext wa wx)
    case first =>
      have HFE : Hid (Tape.fits s r = (decide (r.st = s.state) && decide (r.sy = cv))) := Lib.hid (by rw [fits_eq, HCV.out])
      have p0 : (0 : Int) ≤ (p : Int) := by omega
      have p1 : (p : Int) < (m : Int) := by omega
      cases q1 : (r.st != s.state)
      · have q1' : r.st = s.state := by simpa using q1
        cases q2 : (r.sy != cv)
        · have q2' : r.sy = cv := by simpa using q2
          have HE : Hid (false = !Tape.fits s r) := Lib.hid (by rw [HFE.out, q1', q2']; simp)
          clear q1' q2'
          go_quiet (fail)
          go_wp2
          go_meet
          exact ⟨false, by first | rfl | simp [q2], HE, (Ext.refl wa).drewN _⟩
        · have HE : Hid (true = !Tape.fits s r) := Lib.hid (by rw [HFE.out]; (have : ¬ r.sy = cv := (by simpa using q2)); simp [this])
          clear q1'
          go_quiet (fail)
          go_wp2
          go_meet
          exact ⟨true, by first | rfl | simp [q2], HE, (Ext.refl wa).drewN _⟩
      · have HE : Hid (true = !Tape.fits s r) := Lib.hid (by rw [HFE.out]; (have : ¬ r.st = s.state := (by simpa using q1)); simp [this])
        go_quiet (fail)
        go_wp2
        go_meet
        exact ⟨true, by first | rfl | simp [q1], HE, (Ext.refl wa).drewN _⟩
    obtain ⟨bb, rfl, hbb, hxb⟩ := hcut
    obtain ⟨wb, rfl⟩ : ∃ wb : World, wb = wc := ⟨_, rfl⟩
    have HTB := Lib.hid (HTA.out.ext hxb)
    have HRB := Lib.hid (ext_heap hxb HRB.out)
    have hltb := HTB.out.lt
    have hltg2 : gr < wb.heap.size := (Array.getElem?_eq_some_iff.1 HRB.out).1
    clear hxb r0 r1 k1 k2 k3 hcell hlta hltg
    cases bb with
    | true =>
      have hff : Tape.fits s r = false := by have := hbb.out; simpa using this
      have HNO := Lib.hid (noneR_succ hno.out HRR.out hff)
      clear hff hbb
      go_wp2_with fail
      go_roundw
      case rel => exact ⟨k + 1, by omega, by go_num, HTB.out, HNO⟩
      case measure => simp [intOf]; omega
    | false =>
    have hff : Tape.fits s r = true := by have := hbb.out; simpa using this
    have HRO := Lib.hid (idx_rule hno.out HRR.out hff)
    have HSF := Lib.hid (step_some HRO.out)
    clear hff hbb
    have k1 : wb.cell? ⟨w.heap.size, 1, none⟩ = some (.slice A1 m c1) := (HTB.out.cell 1).trans e1
    have k2 : wb.cell? ⟨w.heap.size, 2, none⟩ = some (.int .i64 (p : Int)) := (HTB.out.cell 2).trans e2
    have r3 : wb.cell? ⟨gr, 3, none⟩ = some (.int .i64 r.mv) := blk_cell HRB.out 3
    obtain ⟨q, hq⟩ : ∃ q : Int, (p : Int) + r.mv = q := ⟨_, rfl⟩
    have HQ := Lib.hid hq
    have hf1 := HRF.out.mv0
    have hf2 := HRF.out.mv1
    have wq : IntKind.i64.wrap ((p : Int) + r.mv) = q := by rw [hq]; exact IntWalk.i64_in _ (by omega)
    have wm : IntKind.i64.wrap ((m : Int) - 1) = (m : Int) - 1 := IntWalk.i64_in _ (by omega)
    have HQB : Hid (-1 ≤ q ∧ q ≤ m) := Lib.hid (by omega)
    clear hq hf1 hf2
    go_upto_region 6 with (fail)
    go_cut [5] (fun s5 wx => s5 = .int .i64 q ∧ wb = wx)
    case first =>
      go_wp2_with fail
      go_meet
      exact ⟨by first | rfl | rw [wq], rfl⟩
    obtain ⟨rfl, rfl⟩ := hcut
    clear wq r3 k2
    go_upto_region 7 with (fail)
    go_cut [53] (fun s53 wx => ∃ bb : Bool, s53 = .bool bb ∧ Hid (bb = (!inB q 0 ((m : Int) - 1) && decide (m = 200))) ∧ wb = wx)
    case first =>
      cases q1 : inB q 0 ((m : Int) - 1)
      · by_cases q2 : m = 200
        · have q3 : ((m : Int) == 200) = true := by simp; omega
          have HQ2 := Lib.hid q2
          clear q2
          go_wp2_with (go_at_call 22; refine (In_c _ _ _ _).mono ?_; rintro e w' ⟨rfl, rfl⟩; rw [q1])
          go_meet
          exact ⟨true, by first | rfl | simp [q3], Lib.hid (by rw [q1, decide_eq_true HQ2.out]; rfl), rfl⟩
        · have q3 : ((m : Int) == 200) = false := by simp; omega
          go_wp2_with (go_at_call 22; refine (In_c _ _ _ _).mono ?_; rintro e w' ⟨rfl, rfl⟩; rw [q1])
          go_meet
          exact ⟨false, by first | rfl | simp [q3], Lib.hid (by simp [q1, q2]), rfl⟩
      · go_wp2_with (go_at_call 22; refine (In_c _ _ _ _).mono ?_; rintro e w' ⟨rfl, rfl⟩; rw [q1])
        go_meet
        exact ⟨false, by first | rfl | simp, Lib.hid (by simp [q1]), rfl⟩
    obtain ⟨bb, rfl, hbb, rfl⟩ := hcut
    have HQP : Hid (s.at_ + r.mv = q) := Lib.hid (by rw [HP.out]; exact HQ.out)
    cases bb with
    | true =>
      have HRE : Hid ({ s with stop := 3 } = R) := Lib.hid (by
        have h1 := hbb.out
        rw [HR.out, HSF.out]
        have h2 : inB q 0 ((m : Int) - 1) = false ∧ m = 200 := by revert h1; cases inB q 0 ((m : Int) - 1) <;> simp
        have h3 : ¬ (0 ≤ q ∧ q ≤ (m : Int) - 1) := by have := h2.1; unfold inB at this; simpa using this
        rw [actF_full (by rw [HQP.out, ← HM.out]; omega) (by rw [← HM.out]; omega)])
      have k4 : wb.cell? ⟨w.heap.size, 4, none⟩ = some (.int .i64 s.stop) := (HTB.out.cell 4).trans e4
      have z4 := HTB.out.frozen 4
      clear hbb k1
      go_upto_region 9 with (fail)
      refine wp_worldT (fun wx => TFin bad w wx { s with stop := 3 } (cs.setIfInBounds 4 (.int .i64 3))) ((HTB.out.fin HAV.out).set (fun F h => stop_setT h ⟨by decide, by decide⟩)) ?_
      intro wf hm
      rw [HRE.out] at hm
      have HB1 := Lib.hid hm.b1
      have HB2 := Lib.hid hm.b2
      have HSB := Lib.hid hm.is.size
      have HO := Lib.hid (tsq_one hm.is)
      have hltf := hm.lt
      have HFIN := Lib.hid hm.fin
      clear hm k4 z4
      obtain ⟨cz, hcz⟩ : ∃ cz, cz = cs.setIfInBounds 4 (.int .i64 3) := ⟨_, rfl⟩
      rw [← hcz] at HB1 HSB HO HFIN
      clear hcz
      go_wp2_with (first | refine wpList_load_row rfl 54 _ rfl w.heap.size rfl 54 cz (0, 0) _ HB1.out Tryd.underlying54 rfl (by rw [HSB.out]; exact sizeQ) ?_ | refine wpList_store_row rfl 54 _ _ rfl (w.heap.size + 1) cz rfl rfl 54 zeroTs HB2.out (by rw [HSB.out]; exact sizeQ) (by rw [HSB.out]; rfl) HO.out ?_)
      refine bodyPost_ret (results_oneT rfl _ _ (w.heap.size + 1) 54 cz (0, 0) _ rfl ?_ Tryd.underlying54 rfl (by rw [HSB.out]; exact sizeQ)) rfl HFIN.out
      exact setRow_heap _ _ _ _ _ _ HB2.out
    | false =>
    have HAG : Hid (R = if r.nx < 0 then { s with cells := (Tape.moved s r).1, at_ := (Tape.moved s r).2, stop := 1 } else { s with cells := (Tape.moved s r).1, at_ := (Tape.moved s r).2, state := r.nx }) := Lib.hid (by
      have h1 := hbb.out
      rw [HR.out, HSF.out]
      refine actF_go fun h => ?_
      rw [HQP.out, ← HM.out] at h
      have h3 : inB q 0 ((m : Int) - 1) = false := by unfold inB; simp; omega
      have h4 : m = 200 := by omega
      rw [h3, h4] at h1
      simp at h1)
    have HNF : Hid (¬ ((q < 0 ∨ (m : Int) ≤ q) ∧ 200 ≤ m)) := Lib.hid (fun h => by
      have h1 := hbb.out
      have h3 : inB q 0 ((m : Int) - 1) = false := by unfold inB; simp; omega
      have h4 : m = 200 := by omega
      rw [h3, h4] at h1
      simp at h1)
    clear hbb
    obtain ⟨S5, hS5⟩ : ∃ S5, S5 = s.cells.set p r.wr := ⟨_, rfl⟩
    have HSG := Lib.hid (set_get s.cells p r.wr)
    have HSL : Hid (S5.length = m) := Lib.hid (by rw [hS5, List.length_set, HM.out])
    rw [← hS5] at HSG
    have HS5 := Lib.hid hS5
    clear hS5
    obtain ⟨CE, hCE⟩ : ∃ CE, CE = (Tape.moved s r).1 := ⟨_, rfl⟩
    obtain ⟨AE, hAE⟩ : ∃ AE, AE = (Tape.moved s r).2 := ⟨_, rfl⟩
    have HMV : Hid ((q < 0 → CE = 0 :: S5 ∧ AE = 0) ∧ (q = m → CE = S5 ++ [0] ∧ AE = q) ∧ (0 ≤ q → q ≠ m → CE = S5 ∧ AE = q)) := Lib.hid (by
      rw [hCE, hAE, HS5.out]
      unfold Tape.moved
      rw [HQP.out, ← HM.out, HP.out, Int.toNat_natCast]
      refine ⟨fun h => ?_, fun h => ?_, fun h h' => ?_⟩
      · rw [if_pos h]; exact ⟨rfl, rfl⟩
      · rw [if_neg (by omega), if_pos h]; exact ⟨rfl, rfl⟩
      · rw [if_neg (by omega), if_neg h']; exact ⟨rfl, rfl⟩)
    have HMO := Lib.hid (Tape.moved_ok HOK.out (HOK.out.rules r (List.mem_of_getElem? HRR.out)) (by
      rw [HQP.out, ← HM.out]; exact HNF.out))
    rw [← hCE, ← hAE] at HAG HMO
    clear hCE hAE
    have HCW : Hid (∀ x ∈ CE, I64 x) := Lib.hid (fun x hx => by have := HMO.out.2.1 x hx; exact i64_small (by omega) (by omega))
    have HAW : Hid (I64 AE) := Lib.hid (by have := HMO.out.2.2; have := HMO.out.1; exact i64_small (by omega) (by omega))
    obtain ⟨i0, hi, hz0, hz1, hz2⟩ := info_parts infoI
    have HI := Lib.hid hi
    have HZ0 := Lib.hid hz0
    have HZ1 := Lib.hid hz1
    have HZ2 := Lib.hid hz2
    have HQB := HQB
    clear hi hz0 hz1 hz2 k1 wm
    have HR0 : Hid (TFr w wb cs [] (.slice none 0 0) gr r) := Lib.hid ⟨TFl.mk0 HTB.out, HRB.out⟩
    go_upto_if 57 with (fail)
    go_cut [5, 6] (fun s5 s6 wx => ∃ a5 v pre, s5 = .int .i64 a5 ∧ s6 = v ∧ TFr w wx cs pre v gr r ∧ Hid ((q < 0 → pre = [0] ∧ a5 = 0) ∧ (0 ≤ q → pre = [] ∧ a5 = q)))
    case first =>
      by_cases hq0 : q < 0
      · go_wp2_with (at_builtin; refine wpList_append_sl rfl _ _ 26 rfl (w.heap.size + 2) 3 i0 (.int .i64 0) 1 8 Tryd.underlying26 HI.out HZ0.out HZ1.out HZ2.out rfl (by decide) _ 0 [] rfl (HR0.out.t.own.alloc _) (some ⟨wb.heap.size, 0, none⟩) 1 1 [.int .i64 0] rfl (slc_new wb [.int .i64 0] 3) rfl (by simp [Value.oneCell']) (by unfold maxLen; omega) (by omega) (by simp; omega) ?_; intro v3 w3 ho3 hg3 _h3; have HN3 := Lib.hid (HR0.out.add ho3 hg3); clear ho3 hg3 _h3)
        go_meet
        exact ⟨0, _, [0], rfl, rfl, HN3.out, Lib.hid ⟨fun _ => ⟨rfl, rfl⟩, fun h => by omega⟩⟩
      · go_wp2_with fail
        go_meet
        exact ⟨q, _, [], rfl, rfl, HR0.out, Lib.hid ⟨fun h => by omega, fun _ => ⟨rfl, rfl⟩⟩⟩
    obtain ⟨a5, v6, pre, rfl, rfl, htf, hpre⟩ := hcut
    have HTF := Lib.hid htf
    have hpl : pre.length ≤ 1 := by
      by_cases hq0 : q < 0
      · rw [(hpre.out.1 hq0).1]; simp
      · rw [(hpre.out.2 (by omega)).1]; simp
    clear htf HR0
    go_wp2_with fail
    go_loopw [6, 7] (fun v i wx => ∃ j : Nat, j ≤ m ∧ i = .int .i64 j ∧ TFr w wx cs (pre ++ S5.take j) v gr r) (fun _ i _ => m - (intOf i).toNat)
    case atStart => exact ⟨0, Nat.zero_le _, rfl, by rw [List.take_zero, List.append_nil]; exact HTF.out⟩
    case round =>
    obtain ⟨j, hj, rfl, htf⟩ := hrel
    obtain ⟨M, hM⟩ : ∃ M, M = pre ++ S5.take j := ⟨_, rfl⟩
    rw [← hM] at htf
    have HTF := Lib.hid htf
    have hML : M.length = pre.length + j := by rw [hM, List.length_append, List.length_take, HSL.out]; omega
    have hbs := htf.box.lt
    have k1 : wr.cell? ⟨w.heap.size, 1, none⟩ = some (.slice A1 m c1) := (htf.box.cell 1).trans e1
    have HMM := Lib.hid hM
    clear htf hM
    rw [hA1] at k1
    by_cases hjm : j < m
    · have k2 : wr.cell? ⟨w.heap.size, 2, none⟩ = some (.int .i64 (p : Int)) := (HTF.out.box.cell 2).trans e2
      obtain ⟨x, hx⟩ : ∃ x, S5[j]? = some x := ⟨_, List.getElem?_eq_getElem (by rw [HSL.out]; exact hjm)⟩
      have HST : Hid (pre ++ S5.take (j + 1) = M ++ [x]) := Lib.hid (by rw [HMM.out, List.take_add_one, hx, List.append_assoc]; rfl)
      have HSGJ := HSG.out j (by rw [← HM.out]; exact hjm)
      rw [hx] at HSGJ
      by_cases hjp : j = p
      · have hxw : x = r.wr := by have := HSGJ.1 hjp; injection this
        subst hxw
        have r2 : wr.cell? ⟨gr, 2, none⟩ = some (.int .i64 r.wr) := blk_cell HTF.out.rb 2
        have hltg : gr < wr.heap.size := (Array.getElem?_eq_some_iff.1 HTF.out.rb).1
        have hjb : ((j : Int) == (p : Int)) = true := by simp; omega
        clear HSGJ hx hjp
        go_wp2_with (at_builtin; refine wpList_append_sl rfl _ _ 26 rfl (w.heap.size + 2) 3 i0 (.int .i64 0) 1 8 Tryd.underlying26 HI.out HZ0.out HZ1.out HZ2.out rfl (by decide) _ M.length (M.map (Value.int .i64)) rfl (HTF.out.t.own.alloc _) (some ⟨wr.heap.size, 0, none⟩) 1 1 [.int .i64 r.wr] rfl (slc_new wr [.int .i64 r.wr] 3) rfl (by simp [Value.oneCell']) (by unfold maxLen; omega) (by omega) (by simp; omega) ?_; intro v3 w3 ho3 hg3 _h3; have HN3 := Lib.hid (HTF.out.add ho3 hg3); clear ho3 hg3 _h3)
        go_roundw
        case rel => exact ⟨j + 1, by omega, by go_num, by rw [HST.out]; exact HN3.out⟩
        case measure => simp [intOf]; omega
      · obtain ⟨b2, o2, hA2, hcell⟩ := ((HAV.out.st.ext HTF.out.box.x).sl HE1.out).at_ (i := j) (by rw [← HM.out]; exact hjm)
        rw [hA1] at hA2
        cases hA2
        have hxv : s.cells[j]?.getD 0 = x := by have := HSGJ.2 hjp; injection this with this; exact this.symm
        rw [hxv] at hcell
        have hjb : ((j : Int) == (p : Int)) = false := by simp; omega
        have hltb : b1 < wr.heap.size := World.block_lt_of_cell? wr _ hcell
        clear HSGJ hx hjp hxv
        go_wp2_with (at_builtin; refine wpList_append_sl rfl _ _ 26 rfl (w.heap.size + 2) 3 i0 (.int .i64 0) 1 8 Tryd.underlying26 HI.out HZ0.out HZ1.out HZ2.out rfl (by decide) _ M.length (M.map (Value.int .i64)) rfl (HTF.out.t.own.alloc _) (some ⟨wr.heap.size, 0, none⟩) 1 1 [.int .i64 x] rfl (slc_new wr [.int .i64 x] 3) rfl (by simp [Value.oneCell']) (by unfold maxLen; omega) (by omega) (by simp; omega) ?_; intro v3 w3 ho3 hg3 _h3; have HN3 := Lib.hid (HTF.out.add ho3 hg3); clear ho3 hg3 _h3)
        go_roundw
        case rel => exact ⟨j + 1, by omega, by go_num, by rw [HST.out]; exact HN3.out⟩
        case measure => simp [intOf]; omega
    · have hMS : M = pre ++ S5 := by rw [HMM.out, List.take_of_length_le (by rw [HSL.out]; omega)]
      have hjm2 : j = m := by omega
      subst hjm2
      have HAE : Hid (a5 = AE ∧ ((a5 == (M.length : Int)) = true → CE = M ++ [0]) ∧ ((a5 == (M.length : Int)) = false → CE = M)) := Lib.hid (by
        by_cases hq0 : q < 0
        · obtain ⟨h1, h2⟩ := hpre.out.1 hq0
          obtain ⟨h3, h4⟩ := HMV.out.1 hq0
          subst h1
          subst h2
          refine ⟨h4.symm, fun h => ?_, fun _ => by rw [h3, hMS]; rfl⟩
          have : (0 : Int) = (M.length : Int) := by simpa using h
          rw [hML] at this
          simp at this
          omega
        · obtain ⟨h1, h2⟩ := hpre.out.2 (by omega)
          subst h1
          subst h2
          rw [hML, hMS]
          by_cases hqm : a5 = (j : Int)
          · obtain ⟨h3, h4⟩ := HMV.out.2.1 hqm
            refine ⟨h4.symm, fun _ => by rw [h3]; rfl, fun h => ?_⟩
            have : ¬ a5 = (([] : List Int).length + j : Nat) := by simpa using h
            simp at this
            omega
          · obtain ⟨h3, h4⟩ := HMV.out.2.2 (by omega) hqm
            refine ⟨h4.symm, fun h => ?_, fun _ => by rw [h3]; rfl⟩
            have : a5 = (([] : List Int).length + j : Nat) := by simpa using h
            simp at this
            omega)
      have ha5 := HAE.out.1
      subst ha5
      obtain ⟨VA, vc, hv6, -, -, -, -⟩ := own_sl5 HTF.out.t.own
      obtain ⟨ml, hml⟩ : ∃ ml, ml = M.length := ⟨_, rfl⟩
      rw [← hml] at hv6 HAE hML
      have HML := Lib.hid hml
      have HML2 := Lib.hid hML
      clear hml hMS hML
      subst hv6
      go_upto_if 88 with (fail)
      go_cut [6] (fun s6 wx => ∃ v, s6 = v ∧ TFr w wx cs CE v gr r)
      case first =>
        cases hb : (a5 == (ml : Int))
        · have hce := HAE.out.2.2 hb
          go_wp2_with fail
          go_meet
          exact ⟨_, rfl, by rw [hce]; exact HTF.out⟩
        · have hce := HAE.out.2.1 hb
          have HCE := Lib.hid hce
          clear hce
          go_wp2_with (at_builtin; refine wpList_append_sl rfl _ _ 26 rfl (w.heap.size + 2) 3 i0 (.int .i64 0) 1 8 Tryd.underlying26 HI.out HZ0.out HZ1.out HZ2.out rfl (by decide) _ M.length (M.map (Value.int .i64)) rfl (HTF.out.t.own.alloc _) (some ⟨wr.heap.size, 0, none⟩) 1 1 [.int .i64 0] rfl (slc_new wr [.int .i64 0] 3) rfl (by simp [Value.oneCell']) (by have := HML.out; have := HML2.out; unfold maxLen; omega) (by have := HML.out; have := HML2.out; omega) (by simp; omega) ?_; intro v3 w3 ho3 hg3 _h3; have HN3 := Lib.hid (HTF.out.add ho3 hg3); clear ho3 hg3 _h3)
          go_meet
          exact ⟨_, rfl, by rw [HCE.out]; exact HN3.out⟩
      obtain ⟨v7, hv7, htf⟩ := hcut
      obtain ⟨VD, cd, hvd, -, -, -, -⟩ := own_sl5 htf.t.own
      obtain ⟨ce, hce⟩ : ∃ ce, ce = CE.length := ⟨_, rfl⟩
      rw [← hce] at hvd
      clear hce
      subst hvd
      subst hv7
      obtain ⟨wd, rfl⟩ : ∃ wd : World, wd = wc := ⟨_, rfl⟩
      have HTD := Lib.hid htf
      have hltd := htf.box.lt
      have k1 : wd.cell? ⟨w.heap.size, 1, none⟩ = some (.slice A1 j c1) := (htf.box.cell 1).trans e1
      have z1 := htf.box.frozen 1
      clear htf
      go_upto_region 23 with (fail)
      refine wp_worldT (fun wx => TFin bad w wx { s with cells := CE } (cs.setIfInBounds 1 (.slice VD ce cd)) ∧ wx.heap[gr]? = some (.cells (ruleV r).toArray 88 (0, 0))) ⟨HTD.out.t.fin HAV.out HBAD.out HCW.out, by
        rw [Below.heap_setCell _ _ _ _ (by have := HGR.out; show gr ≠ w.heap.size; omega)]; exact HTD.out.rb⟩ ?_
      rintro we ⟨hm, hrb⟩
      have HRE := Lib.hid hrb
      have HME := Lib.hid hm
      have hlte := hm.lt
      have k2 : we.cell? ⟨w.heap.size, 2, none⟩ = some (.int .i64 s.at_) := (hm.cell 2).trans hm.is.at_
      have z2 := hm.frozen 2
      clear hm hrb k1 z1
      go_upto_region 24 with (fail)
      refine wp_worldT (fun wx => TFin bad w wx { { s with cells := CE } with at_ := a5 } ((cs.setIfInBounds 1 (.slice VD ce cd)).setIfInBounds 2 (.int .i64 a5)) ∧ wx.heap[gr]? = some (.cells (ruleV r).toArray 88 (0, 0))) ⟨HME.out.set (fun F h => at_setT h HAW.out), by
        rw [Below.heap_setCell _ _ _ _ (by have := HGR.out; show gr ≠ w.heap.size; omega)]; exact HRE.out⟩ ?_
      rintro wf ⟨hm, hrb⟩
      have HRF2 := Lib.hid hrb
      have HMF := Lib.hid hm
      have hltf := hm.lt
      have hltg : gr < wf.heap.size := (Array.getElem?_eq_some_iff.1 hrb).1
      have k3 : wf.cell? ⟨w.heap.size, 3, none⟩ = some (.int .i64 s.state) := (hm.cell 3).trans hm.is.state
      have z3 := hm.frozen 3
      have k4 : wf.cell? ⟨w.heap.size, 4, none⟩ = some (.int .i64 s.stop) := (hm.cell 4).trans hm.is.stop
      have z4 := hm.frozen 4
      have r4 : wf.cell? ⟨gr, 4, none⟩ = some (.int .i64 r.nx) := blk_cell hrb 4
      obtain ⟨c2, hc2⟩ : ∃ c2, c2 = ((cs.setIfInBounds 1 (.slice VD ce cd)).setIfInBounds 2 (.int .i64 a5)) := ⟨_, rfl⟩
      rw [← hc2] at HMF
      clear hm hrb k2 z2 hc2
      by_cases hnx : r.nx < 0
      · have HEQ : Hid ({ { { s with cells := CE } with at_ := a5 } with stop := 1 } = R) := Lib.hid (by rw [HAG.out, if_pos hnx])
        go_upto_region 27 with (fail)
        refine wp_worldT (fun wx => TFin bad w wx { { { s with cells := CE } with at_ := a5 } with stop := 1 } (c2.setIfInBounds 4 (.int .i64 1))) (HMF.out.set (fun F h => stop_setT h ⟨by decide, by decide⟩)) ?_
        intro wg hm
        rw [HEQ.out] at hm
        clear k3 k4 z3 z4 r4
        obtain ⟨cz, hcz⟩ : ∃ cz, cz = c2.setIfInBounds 4 (.int .i64 1) := ⟨_, rfl⟩
        rw [← hcz] at hm
        have HB1 := Lib.hid hm.b1
        have HB2 := Lib.hid hm.b2
        have HSB := Lib.hid hm.is.size
        have HO := Lib.hid (tsq_one hm.is)
        have hltg2 := hm.lt
        have HFIN := Lib.hid hm.fin
        clear hm hcz
        go_wp2_with (first | refine wpList_load_row rfl 54 _ rfl w.heap.size rfl 54 cz (0, 0) _ HB1.out Tryd.underlying54 rfl (by rw [HSB.out]; exact sizeQ) ?_ | refine wpList_store_row rfl 54 _ _ rfl (w.heap.size + 1) cz rfl rfl 54 zeroTs HB2.out (by rw [HSB.out]; exact sizeQ) (by rw [HSB.out]; rfl) HO.out ?_)
        refine bodyPost_ret (results_oneT rfl _ _ (w.heap.size + 1) 54 cz (0, 0) _ rfl ?_ Tryd.underlying54 rfl (by rw [HSB.out]; exact sizeQ)) rfl HFIN.out
        exact setRow_heap _ _ _ _ _ _ HB2.out
      · have HEQ : Hid ({ { { s with cells := CE } with at_ := a5 } with state := r.nx } = R) := Lib.hid (by rw [HAG.out, if_neg hnx])
        have HNX : Hid (I64 r.nx) := Lib.hid (fits_wf HRF.out).nx
        go_upto_region 27 with (fail)
        refine wp_worldT (fun wx => TFin bad w wx { { { s with cells := CE } with at_ := a5 } with state := r.nx } (c2.setIfInBounds 3 (.int .i64 r.nx))) (HMF.out.set (fun F h => state_setT h HNX.out)) ?_
        intro wg hm
        rw [HEQ.out] at hm
        clear k3 k4 z3 z4 r4
        obtain ⟨cz, hcz⟩ : ∃ cz, cz = c2.setIfInBounds 3 (.int .i64 r.nx) := ⟨_, rfl⟩
        rw [← hcz] at hm
        have HB1 := Lib.hid hm.b1
        have HB2 := Lib.hid hm.b2
        have HSB := Lib.hid hm.is.size
        have HO := Lib.hid (tsq_one hm.is)
        have hltg2 := hm.lt
        have HFIN := Lib.hid hm.fin
        clear hm hcz
        go_wp2_with (first | refine wpList_load_row rfl 54 _ rfl w.heap.size rfl 54 cz (0, 0) _ HB1.out Tryd.underlying54 rfl (by rw [HSB.out]; exact sizeQ) ?_ | refine wpList_store_row rfl 54 _ _ rfl (w.heap.size + 1) cz rfl rfl 54 zeroTs HB2.out (by rw [HSB.out]; exact sizeQ) (by rw [HSB.out]; rfl) HO.out ?_)
        refine bodyPost_ret (results_oneT rfl _ _ (w.heap.size + 1) 54 cz (0, 0) _ rfl ?_ Tryd.underlying54 rfl (by rw [HSB.out]; exact sizeQ)) rfl HFIN.out
        exact setRow_heap _ _ _ _ _ _ HB2.out
  · have HNR := Lib.hid (step_none (idx_norule hno.out (by rw [← HN.out]; omega)))
    have k4 : wr.cell? ⟨w.heap.size, 4, none⟩ = some (.int .i64 s.stop) := (HT.out.cell 4).trans e4
    have z4 := HT.out.frozen 4
    go_upto_region 29 with (fail)
    refine wp_worldT (fun wx => TFin bad w wx { s with stop := 2 } (cs.setIfInBounds 4 (.int .i64 2))) ((HT.out.fin HAV.out).set (fun F h => stop_setT h ⟨by decide, by decide⟩)) ?_
    intro wf hm
    rw [show ({ s with stop := 2 } : Ts) = R by rw [HR.out, HNR.out]] at hm
    have HB1 := Lib.hid hm.b1
    have HB2 := Lib.hid hm.b2
    have HSB := Lib.hid hm.is.size
    have HO := Lib.hid (tsq_one hm.is)
    have hltf := hm.lt
    have HFIN := Lib.hid hm.fin
    clear hm k4 z4 k0
    obtain ⟨cz, hcz⟩ : ∃ cz, cz = cs.setIfInBounds 4 (.int .i64 2) := ⟨_, rfl⟩
    rw [← hcz] at HB1 HSB HO HFIN
    clear hcz
    go_wp2_with (first | refine wpList_load_row rfl 54 _ rfl w.heap.size rfl 54 cz (0, 0) _ HB1.out Tryd.underlying54 rfl (by rw [HSB.out]; exact sizeQ) ?_ | refine wpList_store_row rfl 54 _ _ rfl (w.heap.size + 1) cz rfl rfl 54 zeroTs HB2.out (by rw [HSB.out]; exact sizeQ) (by rw [HSB.out]; rfl) HO.out ?_)
    refine bodyPost_ret (results_oneT rfl _ _ (w.heap.size + 1) 54 cz (0, 0) _ rfl ?_ Tryd.underlying54 rfl (by rw [HSB.out]; exact sizeQ)) rfl HFIN.out
    exact setRow_heap _ _ _ _ _ _ HB2.out
end Go.Proofs.YtbaahbpianingaaDoor
