import Derived.Test.YtpooedfchjpndaaDoorEff
namespace Go.Proofs.YtpooedfchjpndaaDoor
open Go Go.Proofs Go.RowKit
set_option maxHeartbeats 1600000
set_option maxRecDepth 100000
def StepRet (w : World) (bm : Nat) (s : St) (e : Ending) (w' : World) : Prop :=
  ∃ cs' vd' vr' vo', e = .returned (.tuple #[]) ∧ MachIs w' bm s cs' vd' vr' vo' ∧ Below bm w w'
def Tabs (w : World) : Prop := (∀ i, i < 24 → w.cell? ⟨0, i, none⟩ = some (.int .i64 (takesL[i]?.getD 0))) ∧ (∀ i, i < 24 → w.cell? ⟨1, i, none⟩ = some (.int .i64 (leavesL[i]?.getD 0)))
theorem Tabs.below {w w' : World} {B : Nat} (h : Tabs w) (hb : Below B w w') (hB : 2 ≤ B) : Tabs w' :=
  ⟨fun i hi => by rw [hb.cell (p := ⟨0, i, none⟩) (by show 0 < B; omega)]; exact h.1 i hi, fun i hi => by rw [hb.cell (p := ⟨1, i, none⟩) (by show 1 < B; omega)]; exact h.2 i hi⟩
section
variable {w : World} {bm : Nat} {s : St} {cs : Array Value} {vd vr vo : Value}
theorem setStop (h : MachIs w bm s cs vd vr vo) (n : Int) : MachIs (w.setCell ⟨bm, 38, none⟩ (.int .i64 n)) bm { s with stop := n } (cs.setIfInBounds 38 (.int .i64 n)) vd vr vo :=
  h.set 38 _ (by decide) { s with stop := n } (by simp) (by simp) (by simp) (by simp) (fun k hk => by rw [if_neg (by omega)]) h.memlen (by simp) (by simp) rfl
theorem belowN (w : World) (bm n : Nat) : Below bm w (w.drewN n) := ⟨rfl, rfl, rfl, Nat.le_refl _, fun _ _ => rfl⟩
theorem results_none' {fn : Func} (h : fn.results = #[]) (tmps : Array Value) (P : Program) (w : World) : (results fn tmps).run P w = .ok (.tuple #[]) w := by simp [results, h]
theorem step_a (h : MachIs w bm s cs vd vr vo) (_k : OkSt s) (hs : (s.image.length : Int) ≤ s.at_) : Calls Tryd.prog 25 #[.pointer (some ⟨bm, 0, none⟩)] w (StepRet w bm (stepF s)) := by
  obtain ⟨A0, c0, e1, e2, e3, e4, e5⟩ := h.image
  have k0 : w.cell? ⟨bm, 0, none⟩ = some (.slice A0 s.image.length c0) := by rw [h.cell, e1]
  have k1 : w.cell? ⟨bm, 1, none⟩ = some (.int .i64 s.at_) := by rw [h.cell, h.at_]
  have k7 : w.cell? ⟨bm, 38, none⟩ = some (.int .i64 s.stop) := by rw [h.cell, h.stop]
  have f7 := h.frozen 38
  have he : stepF s = { s with stop := 3 } := by
    have : stopOf s = 3 := by unfold stopOf; rw [if_pos hs]
    unfold stepF; rw [this]; rfl
  rw [he]
  have HH := Lib.hid h
  clear e1 h he
  go_enter Tryd.func25, Tryd.ntmps25
  go_wp2
  go_quiet (fail)
  go_wp2
  refine bodyPost_ret (results_none' rfl _ _ _) rfl ?_
  exact ⟨_, vd, vr, vo, rfl, setStop (HH.out.drewN _) 3, (belowN w bm _).trans (below_set _ _ _ _)⟩
theorem step_b (h : MachIs w bm s cs vd vr vo) (k : OkSt s) (hs : ¬ (s.image.length : Int) ≤ s.at_) (ho : 24 ≤ opOf s) : Calls Tryd.prog 25 #[.pointer (some ⟨bm, 0, none⟩)] w (StepRet w bm (stepF s)) := by
  obtain ⟨A0, c0, e1, e2, e3, e4, e5⟩ := h.image
  have k0 : w.cell? ⟨bm, 0, none⟩ = some (.slice A0 s.image.length c0) := by rw [h.cell, e1]
  have k1 : w.cell? ⟨bm, 1, none⟩ = some (.int .i64 s.at_) := by rw [h.cell, h.at_]
  have k7 : w.cell? ⟨bm, 38, none⟩ = some (.int .i64 s.stop) := by rw [h.cell, h.stop]
  have f7 := h.frozen 38
  have he : stepF s = { s with stop := 2 } := by
    have : stopOf s = 2 := by unfold stopOf; rw [if_neg hs, if_pos ho]
    unfold stepF; rw [this]; rfl
  rw [he]
  have a0 := k.at0
  have a1 := k.at1
  have hsl : Sl w .u8 A0 s.image := e5.sl
  obtain ⟨b, o, x, rfl, hx, hcell⟩ := hsl.at2 (i := s.at_.toNat) (by omega)
  have hop : opOf s = x := by unfold opOf; rw [hx.out]; rfl
  rw [hop] at ho
  have hxb : 0 ≤ x ∧ x < 256 := k.wf.image x (List.mem_of_getElem? hx.out)
  obtain ⟨x0, x1⟩ := hxb
  have hw := wrap64_u16 (b := x) x0 (by omega)
  have HH := Lib.hid h
  clear e1 h he hop hsl e5
  go_enter Tryd.func25, Tryd.ntmps25
  go_wp2
  go_quiet (fail)
  go_wp2
  go_quiet (fail)
  go_wp2
  refine bodyPost_ret (results_none' rfl _ _ _) rfl ?_
  exact ⟨_, vd, vr, vo, rfl, setStop (HH.out.drewN _) 2, (belowN w bm _).trans (below_set _ _ _ _)⟩
theorem quiet_add' {P : Program} {f : FuncId} {args : Array Value} {w : World} {a n : Nat} {v : Value} (c : ∀ W : World, Calls P f args W fun e w' => e = .returned v ∧ W = w') :
    Calls P f args (w.drewN (a + n)) fun e w'' => e = .returned v ∧ ∃ m, w'' = w.drewN (a + m) :=
  (c _).mono fun _ _ ⟨he, hm⟩ => ⟨he, n, hm.symm⟩
theorem stop_obst {s : St} (h1 : ¬ (s.image.length : Int) ≤ s.at_) (h2 : ¬ 24 ≤ opOf s) : stopOf s = obstF (takesOf (opOf s)) (leavesOf (opOf s)) (opOf s) (s.at_ + 1 + sizeOp (opOf s)) s.image.length s.data.length s.ret.length (topF s.data 0) s.output.length := by
  unfold stopOf obstF
  rw [if_neg h1, if_neg h2]
theorem tabs_range {op : Int} (h0 : 0 ≤ op) (h1 : op < 24) : (0 ≤ takesOf op ∧ takesOf op ≤ 2) ∧ 0 ≤ leavesOf op ∧ leavesOf op ≤ 3 := by
  have : ∀ i : Fin 24, (0 ≤ takesL[i.1]?.getD 0 ∧ takesL[i.1]?.getD 0 ≤ 2) ∧ 0 ≤ leavesL[i.1]?.getD 0 ∧ leavesL[i.1]?.getD 0 ≤ 3 := by decide
  exact this ⟨op.toNat, by omega⟩
theorem sizeOp_range (op : Int) : 0 ≤ sizeOp op ∧ sizeOp op ≤ 2 := by
  unfold sizeOp; split
  · omega
  · split <;> omega
theorem step_c (h : MachIs w bm s cs vd vr vo) (k : OkSt s) (ht : Tabs w) (hs : ¬ (s.image.length : Int) ≤ s.at_) (ho : ¬ 24 ≤ opOf s) (hz : stopOf s ≠ 0) : Calls Tryd.prog 25 #[.pointer (some ⟨bm, 0, none⟩)] w (StepRet w bm (stepF s)) := by
  obtain ⟨A0, c0, e1, e2, e3, e4, e5⟩ := h.image
  have k0 : w.cell? ⟨bm, 0, none⟩ = some (.slice A0 s.image.length c0) := by rw [h.cell, e1]
  have k1 : w.cell? ⟨bm, 1, none⟩ = some (.int .i64 s.at_) := by rw [h.cell, h.at_]
  have k7 : w.cell? ⟨bm, 38, none⟩ = some (.int .i64 s.stop) := by rw [h.cell, h.stop]
  have f7 := h.frozen 38
  have he : stepF s = { s with stop := stopOf s } := by unfold stepF; rw [if_neg hz]
  rw [he]
  have a0 := k.at0
  have a1 := k.at1
  have hsl : Sl w .u8 A0 s.image := e5.sl
  obtain ⟨b, o, x, rfl, hx, hcell⟩ := hsl.at2 (i := s.at_.toNat) (by omega)
  have hop : opOf s = x := by unfold opOf; rw [hx.out]; rfl
  have hso := stop_obst hs ho
  rw [hop] at ho hso
  have hxb : 0 ≤ x ∧ x < 256 := k.wf.image x (List.mem_of_getElem? hx.out)
  obtain ⟨x0, x1⟩ := hxb
  have hw := wrap64_u16 (b := x) x0 (by omega)
  have HH := Lib.hid h
  obtain ⟨A2, c2, v2, l2, m2, n2, s2⟩ := own_sl h.datao
  obtain ⟨A3, c3, v3, l3, m3, n3, s3⟩ := own_sl h.reto
  obtain ⟨A6, c6, v6, l6, m6, n6, s6⟩ := own_sl h.outputo
  have tr := tabs_range (op := x) x0 (by omega)
  have sr := sizeOp_range x
  have hil := k.il
  have hob := fun n => obstacle_c bm x (s.at_ + 1 + sizeOp x) (takesOf x) (leavesOf x) (some ⟨b, o, none⟩) A2 A3 A6 s.data s.image.length s.ret.length s.output.length c0 c2 c3 c6 (w.drewN n) ⟨x0, by omega⟩ (by omega) tr.1 tr.2 k.dl k.wf.data k.il k.rl k.ol
    k0 (by rw [World.cell?_drewN, h.cell, h.data, v2]) s2 (by rw [World.cell?_drewN, h.cell, h.ret, v3]) (by rw [World.cell?_drewN, h.cell, h.output, v6]) (ht.1 _ (by omega)) (ht.2 _ (by omega))
  rw [← hso] at hob
  have HOB := Lib.hid hob
  obtain ⟨st, hst⟩ : ∃ st, stopOf s = st := ⟨_, rfl⟩
  rw [hst] at HOB hz ⊢
  have hz' : (st != 0) = true := by simpa using hz
  obtain ⟨sz, hsz⟩ : ∃ sz, sizeOp x = sz := ⟨_, rfl⟩
  have hos := fun W => operandSize_c x W
  rw [hsz] at HOB sr
  simp only [hsz] at hos
  have HOS := Lib.hid hos
  obtain ⟨sr0, sr1⟩ := sr
  clear e1 h he hop hsl e5 hso hob hst hz hsz hos ht tr v2 v3 v6 s2 s3 s6
  go_enter Tryd.func25, Tryd.ntmps25
  go_wp2
  go_quiet (fail)
  go_wp2
  go_quiet (fail)
  go_wp2
  go_quiet ((go_at_call 27; exact quiet_add' HOS.out))
  go_wp2_with (go_at_call 28; refine (HOB.out _).mono ?_; rintro e w' ⟨rfl, n, rfl⟩)
  refine bodyPost_ret (results_none' rfl _ _ _) rfl ?_
  exact ⟨_, vd, vr, vo, rfl, setStop (HH.out.drewN _) st, (belowN w bm _).trans (below_set _ _ _ _)⟩
end
end Go.Proofs.YtpooedfchjpndaaDoor
