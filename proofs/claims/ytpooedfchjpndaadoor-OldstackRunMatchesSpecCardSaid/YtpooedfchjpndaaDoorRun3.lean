import Derived.Test.YtpooedfchjpndaaDoorRunB
import Derived.Deep.RegionHeld3
import Derived.Test.YtpooedfchjpndaaDoorOkStep
namespace Go.Proofs.YtpooedfchjpndaaDoor
open Go Go.Proofs Go.RowKit
set_option maxHeartbeats 3200000
set_option maxRecDepth 100000
/-- The machine's box while its slices are being copied. -/
structure Copied (w wx : World) (cs : Array Value) (bm : Nat) (s : St) (cs' : Array Value) : Prop where
  b : Begun w wx cs
  blk : wx.heap[bm]? = some (.cells cs' 53 (0, 0))
  lt : w.heap.size + 2 < bm
structure Copied7 (w wx : World) (cs : Array Value) (bm : Nat) (s : St) (v0 v2 v3 : Value) : Prop where
  c : Copied w wx cs bm s (((cs.setIfInBounds 0 v0).setIfInBounds 2 v2).setIfInBounds 3 v3)
  o0 : wx.ownsRow bm 5 1 v0 s.image.length (s.image.map (Value.int .u8))
  o2 : wx.ownsRow bm 25 1 v2 s.data.length (s.data.map (Value.int .u16))
  o3 : wx.ownsRow bm 3 1 v3 s.ret.length (s.ret.map (Value.int .i64))
theorem Ext.trans' {w wx w1 : World} {bm : Nat} (h : Ext w wx) (x : Below bm wx w1) (hb : w.heap.size ≤ bm) : Ext w w1 :=
  Below.trans h (Below.mono x hb)
theorem own_base {w : World} {base base' : Nat} {e : TypeId} {v : Value} {n : Nat} {xs : List Value} (h : w.ownsRow base e 1 v n xs) (hb : base' ≤ base) : w.ownsRow base' e 1 v n xs := by
  refine ⟨h.1, ?_⟩
  rcases h.2 with hn | ⟨g, cap, cur, hv, hg, r⟩
  · exact .inl hn
  · exact .inr ⟨g, cap, cur, hv, Nat.le_trans hb hg, r⟩
theorem own_ext {w w' : World} {base : Nat} {e : TypeId} {v : Value} {n : Nat} {xs : List Value} (h : w.ownsRow base e 1 v n xs) (x : Ext w w') : w'.ownsRow base e 1 v n xs :=
  own_keep h fun g hg => x.block g (own_lt h hg).2
theorem own_set {w : World} {base : Nat} {e : TypeId} {v : Value} {n : Nat} {xs : List Value} (h : w.ownsRow base e 1 v n xs) {bm : Nat} (hb : bm < base) (j : Nat) (u : Value) : (w.setCell ⟨bm, j, none⟩ u).ownsRow base e 1 v n xs :=
  own_keep h fun g hg => Below.heap_setCell w ⟨bm, j, none⟩ u g (by have := (own_lt h hg).1; show g ≠ bm; omega)
theorem heap_set_bm {w : World} {bm : Nat} {cs : Array Value} {t : TypeId} (h : w.heap[bm]? = some (.cells cs t (0, 0))) (i : Nat) (u : Value) : (w.setCell ⟨bm, i, none⟩ u).heap[bm]? = some (.cells (cs.setIfInBounds i u) t (0, 0)) := by
  simp [World.setCell, Array.getElem?_modify, h]
theorem Begun.set {w wx : World} {cs : Array Value} (h : Begun w wx cs) {bm : Nat} (hb : w.heap.size + 2 < bm) (j : Nat) (u : Value) : Begun w (wx.setCell ⟨bm, j, none⟩ u) cs := by
  refine ⟨?_, ?_, ?_, h.x.setCell (p := ⟨bm, j, none⟩) (by show w.heap.size ≤ bm; omega) u⟩
  · rw [Below.heap_setCell wx ⟨bm, j, none⟩ u _ (by show w.heap.size ≠ bm; omega)]; exact h.g0
  · rw [Below.heap_setCell wx ⟨bm, j, none⟩ u _ (by show w.heap.size + 1 ≠ bm; omega)]; exact h.g1
  · rw [Below.heap_setCell wx ⟨bm, j, none⟩ u _ (by show w.heap.size + 2 ≠ bm; omega)]; exact h.g2
theorem Copied.set {w wx : World} {cs cs' : Array Value} {bm : Nat} {s : St} (h : Copied w wx cs bm s cs') (j : Nat) (u : Value) : Copied w (wx.setCell ⟨bm, j, none⟩ u) cs bm s (cs'.setIfInBounds j u) :=
  ⟨h.b.set h.lt j u, heap_set_bm h.blk j u, h.lt⟩
theorem Copied.ext {w wx w1 : World} {cs cs' : Array Value} {bm : Nat} {s : St} (h : Copied w wx cs bm s cs') (x : Ext wx w1) : Copied w w1 cs bm s cs' := ⟨h.b.ext x, ext_heap x h.blk, h.lt⟩
theorem copied7_mk {w wc w2 w3 w4 : World} {cs : Array Value} {bm : Nat} {s : St} {v0 v2 v3 : Value} (h : Copied w wc cs bm s cs) (hx0 : Ext wc.drew w2) (hx2 : Ext w2 w3) (hx3 : Ext w3 w4)
    (ho0 : w2.ownsRow wc.drew.heap.size 5 1 v0 s.image.length (s.image.map (Value.int .u8))) (ho2 : w3.ownsRow w2.heap.size 25 1 v2 s.data.length (s.data.map (Value.int .u16))) (ho3 : w4.ownsRow w3.heap.size 3 1 v3 s.ret.length (s.ret.map (Value.int .i64))) :
    Copied7 w (((w4.setCell ⟨bm, 0, none⟩ v0).setCell ⟨bm, 2, none⟩ v2).setCell ⟨bm, 3, none⟩ v3) cs bm s v0 v2 v3 := by
  have hlt : bm < wc.heap.size := (Array.getElem?_eq_some_iff.1 h.blk).1
  have h2 := hx0.size
  have h3 := hx2.size
  have e1 : wc.drew.heap.size = wc.heap.size := rfl
  have hc4 : Copied w w4 cs bm s cs := h.ext (((((Ext.refl wc).drew).trans hx0).trans hx2).trans hx3)
  refine ⟨((hc4.set 0 v0).set 2 v2).set 3 v3, ?_, ?_, ?_⟩
  · exact own_base (own_set (own_set (own_set (own_ext (own_ext ho0 hx2) hx3) (by omega) 0 v0) (by omega) 2 v2) (by omega) 3 v3) (by omega)
  · exact own_base (own_set (own_set (own_set (own_ext ho2 hx3) (by omega) 0 v0) (by omega) 2 v2) (by omega) 3 v3) (by omega)
  · exact own_base (own_set (own_set (own_set ho3 (by omega) 0 v0) (by omega) 2 v2) (by omega) 3 v3) (by omega)
structure Copied8 (w wx : World) (cs : Array Value) (bm : Nat) (s : St) (cs' : Array Value) (v2 v3 v6 : Value) : Prop where
  m : MachIs wx bm s cs' v2 v3 v6
  b : Begun w wx cs
theorem own_slf {w : World} {base : Nat} {e : TypeId} {v : Value} {n : Nat} {xs : List Value} (h : w.ownsRow base e 1 v n xs) {bad : Nat → Prop} (hb : ∀ g, v.ownBlock = some g → ¬ bad g) : ∃ A c, v = .slice A n c ∧ n ≤ c ∧ c ≤ maxLen ∧ (A = none → c = 0) ∧ SlF w A xs bad := by
  obtain ⟨A, c, rfl, h1, h2, h3, h4⟩ := own_sl h
  refine ⟨A, c, rfl, h1, h2, h3, fun i u hu => ?_⟩
  obtain ⟨a, ha, hc⟩ := h4 i u hu
  exact ⟨a, ha, hc, hb _ (by rw [ha]; rfl)⟩
theorem own_set_t {w : World} {base : Nat} {e : TypeId} {v : Value} {n : Nat} {xs : List Value} (h : w.ownsRow base e 1 v n xs) {bm : Nat} {cs : Array Value} (hb : w.heap[bm]? = some (.cells cs 53 (0, 0))) (he : e ≠ 53) (j : Nat) (u : Value) : (w.setCell ⟨bm, j, none⟩ u).ownsRow base e 1 v n xs :=
  own_keep h fun g hg => Below.heap_setCell w ⟨bm, j, none⟩ u g (fun e' => own_ne h hb he (by rw [hg, e']))
theorem copied8_mk {w wc w2 w3 : World} {cs : Array Value} {bm : Nat} {s : St} {v0 v2 v3 v5 v6 : Value} (hi : StIs w cs s) (h : Copied7 w wc cs bm s v0 v2 v3) (hx0 : Ext wc.drew w2) (hx2 : Ext w2 w3)
    (ho5 : w2.ownsRow wc.drew.heap.size 5 1 v5 s.input.length (s.input.map (Value.int .u8))) (ho6 : w3.ownsRow w2.heap.size 5 1 v6 s.output.length (s.output.map (Value.int .u8))) :
    ∃ cs', Copied8 w ((w3.setCell ⟨bm, 36, none⟩ v5).setCell ⟨bm, 37, none⟩ v6) cs bm s cs' v2 v3 v6 := by
  have hlt : bm < wc.heap.size := (Array.getElem?_eq_some_iff.1 h.c.blk).1
  have e1 : wc.drew.heap.size = wc.heap.size := rfl
  have h2 := hx0.size
  have hx : Ext wc w3 := (((Ext.refl wc).drew).trans hx0).trans hx2
  have hc := h.c.ext hx
  have hc5 := hc.set 36 v5
  have hc6 := hc5.set 37 v6
  have hsz := hi.size
  have o0 := own_set_t (own_set_t (own_ext h.o0 hx) hc.blk (by decide) 36 v5) hc5.blk (by decide) 37 v6
  have o2 := own_set_t (own_set_t (own_ext h.o2 hx) hc.blk (by decide) 36 v5) hc5.blk (by decide) 37 v6
  have o3 := own_set_t (own_set_t (own_ext h.o3 hx) hc.blk (by decide) 36 v5) hc5.blk (by decide) 37 v6
  have o5 := own_set_t (own_set_t (own_ext ho5 hx2) hc.blk (by decide) 36 v5) hc5.blk (by decide) 37 v6
  have o6 := own_set_t (own_set_t ho6 hc.blk (by decide) 36 v5) hc5.blk (by decide) 37 v6
  have b0 : ∀ g, v0.ownBlock = some g → ¬ Bad bm v2 v3 v6 g := by
    intro g hg hb
    have l1 := own_lt h.o0 hg
    have l2 := own_ne h.o0 h.c.blk (by decide)
    rcases hb with hb | hb | hb | hb
    · exact l2 (by rw [hg]; congr 1; omega)
    · exact ne_of_own_own h.o2 h.o0 (by decide) hg hb
    · exact ne_of_own_own h.o3 h.o0 (by decide) hg hb
    · have := (own_lt ho6 hb).1; omega
  have b5 : ∀ g, v5.ownBlock = some g → ¬ Bad bm v2 v3 v6 g := by
    intro g hg hb
    have l1 := own_lt ho5 hg
    rcases hb with hb | hb | hb | hb
    · omega
    · have := (own_lt h.o2 hb).2; omega
    · have := (own_lt h.o3 hb).2; omega
    · have := (own_lt ho6 hb).1; omega
  obtain ⟨A0, c0, rfl, f1, f2, f3, f4⟩ := own_slf o0 b0
  obtain ⟨A5, c5, rfl, g1, g2, g3, g4⟩ := own_slf o5 b5
  refine ⟨_, ⟨hc6.blk, by simpa using hsz, ⟨A0, c0, ?_, f1, f2, f3, f4⟩, ?_, ?_, o2, ?_, o3, ?_, ⟨A5, c5, ?_, g1, g2, g3, g4⟩, ?_, own_base o6 (by omega), ?_, hi.wf.memlen⟩, hc6.b⟩
  all_goals simp only [getD_set]
  · rw [if_neg (by decide), if_neg (by decide), if_neg (by decide), if_neg (by decide), if_pos trivial, if_pos (by omega)]
  · rw [if_neg (by decide), if_neg (by decide), if_neg (by decide), if_neg (by decide), if_neg (by decide)]; exact hi.at_
  · rw [if_neg (by decide), if_neg (by decide), if_neg (by decide), if_pos trivial, if_pos (by simp; omega)]
  · rw [if_neg (by decide), if_neg (by decide), if_pos trivial, if_pos (by simp; omega)]
  · intro i hi'
    rw [if_neg (by omega), if_neg (by omega), if_neg (by omega), if_neg (by omega), if_neg (by omega)]; exact hi.mem i hi'
  · rw [if_neg (by decide), if_pos trivial, if_pos (by simp; omega)]
  · rw [if_pos trivial, if_pos (by simp; omega)]
  · rw [if_neg (by decide), if_neg (by decide), if_neg (by decide), if_neg (by decide), if_neg (by decide)]; exact hi.stop
theorem Begun.below {w wx w1 : World} {cs : Array Value} (h : Begun w wx cs) {bm : Nat} (hb : w.heap.size + 2 < bm) (x : Below bm wx w1) : Begun w w1 cs := by
  refine ⟨?_, ?_, ?_, h.x.trans' x (by omega)⟩
  · rw [x.block _ (by omega)]; exact h.g0
  · rw [x.block _ (by omega)]; exact h.g1
  · rw [x.block _ (by omega)]; exact h.g2
theorem ok_of {w : World} {cs : Array Value} {s : St} (h : StIs w cs s) (hf : faultOf s = (0, 0)) : OkSt s := by
  unfold faultOf at hf
  split at hf
  · cases hf
  split at hf
  · cases hf
  split at hf
  · cases hf
  rename_i h1 h2 h3
  have hr : badIdx s.ret = none := by
    cases hb : badIdx s.ret with
    | none => rfl
    | some i => rw [hb] at hf; simp at hf
  unfold badIdx at hr
  rw [List.findIdx?_eq_none_iff] at hr
  refine ⟨h.wf, by omega, by omega, by omega, by omega, by omega, by omega, by omega, by omega, by omega, fun x hx => ?_⟩
  have := hr x hx
  simp at this
  omega
theorem tabs_lt {w : World} (h : Tabs w) : 2 ≤ w.heap.size := by
  have := World.block_lt_of_cell? w _ (h.2 0 (by decide))
  exact this
/-- The loop of Run: after k steps. -/
structure Loopy (w wx : World) (cs : Array Value) (bm : Nat) (s : St) (n k : Nat) (sk : St) (cs' : Array Value) (v2 v3 v6 : Value) : Prop where
  m : MachIs wx bm sk cs' v2 v3 v6
  b : Begun w wx cs
  t : Tabs wx
  ok : OkSt sk
  run : runF n s = ((runF (n - k) sk).1, (runF (n - k) sk).2 + k)
theorem Loopy.mk0 {w wx : World} {cs : Array Value} {bm : Nat} {s : St} {n : Nat} {cs' : Array Value} {v2 v3 v6 : Value} (h : Copied8 w wx cs bm s cs' v2 v3 v6) (ht : Tabs wx) (ho : OkSt s) : Loopy w wx cs bm s n 0 s cs' v2 v3 v6 :=
  ⟨h.m, h.b, ht, ho, by simp⟩
theorem Loopy.next {w wx w1 : World} {cs : Array Value} {bm : Nat} {s : St} {n k : Nat} {sk : St} {cs' cs2 : Array Value} {v2 v3 v6 va vb vc : Value} (h : Loopy w wx cs bm s n k sk cs' v2 v3 v6) (hlt : w.heap.size + 2 < bm) (hk : k < n) (hs : sk.stop = 0)
    (hm : MachIs w1 bm (stepF sk) cs2 va vb vc) (hb : Below bm wx w1) : Loopy w w1 cs bm s n (k + 1) (stepF sk) cs2 va vb vc := by
  refine ⟨hm, h.b.below hlt hb, h.t.below hb (by omega), ok_step h.ok, ?_⟩
  rw [h.run, show n - k = (n - (k + 1)) + 1 from by omega]
  simp only [runF, hs, if_true]
  rw [Nat.add_assoc, Nat.add_comm 1 k]
theorem Loopy.fin {w wx : World} {cs : Array Value} {bm : Nat} {s : St} {n k : Nat} {sk : St} {cs' : Array Value} {v2 v3 v6 : Value} (h : Loopy w wx cs bm s n k sk cs' v2 v3 v6) (hk : ¬ (k < n ∧ sk.stop = 0)) : runF n s = (sk, k) := by
  rw [h.run]
  cases hn : n - k with
  | zero => simp [runF]
  | succ m =>
    have : ¬ sk.stop = 0 := fun hs => hk ⟨by omega, hs⟩
    simp [runF, this]
theorem step_all {w : World} {bm : Nat} {s : St} {cs : Array Value} {vd vr vo : Value} (h : MachIs w bm s cs vd vr vo) (k : OkSt s) (ht : Tabs w) (hb2 : 2 ≤ bm) : Calls Tryd.prog 25 #[.pointer (some ⟨bm, 0, none⟩)] w (StepRet w bm (stepF s)) := by
  by_cases h1 : (s.image.length : Int) ≤ s.at_
  · exact step_a h k h1
  by_cases h2 : 24 ≤ opOf s
  · exact step_b h k h1 h2
  by_cases h3 : stopOf s = 0
  · exact step_d h k ht hb2 h1 h2 h3
  · exact step_c h k ht h1 h2 h3
theorem mach_one {w : World} {bm : Nat} {s : St} {cs : Array Value} {vd vr vo : Value} (h : MachIs w bm s cs vd vr vo) : cs.all (·.oneCell') = true := by
  have hsz := h.size
  rw [Array.all_eq_true]
  intro i hi
  have key : ∀ v, cs[i]? = some v → v.oneCell' = true → cs[i].oneCell' = true := by
    intro v hv ho
    rw [Array.getElem?_eq_getElem hi] at hv
    cases hv
    exact ho
  obtain ⟨A0, c0, e0, _⟩ := h.image
  obtain ⟨A5, c5, e5, _⟩ := h.input
  obtain ⟨A2, c2, v2, _⟩ := own_sl h.datao
  obtain ⟨A3, c3, v3, _⟩ := own_sl h.reto
  obtain ⟨A6, c6, v6, _⟩ := own_sl h.outputo
  by_cases h0 : i = 0
  · subst h0; exact key _ e0 rfl
  by_cases h1 : i = 1
  · subst h1; exact key _ h.at_ rfl
  by_cases h2 : i = 2
  · subst h2; exact key _ h.data (by rw [v2]; rfl)
  by_cases h3 : i = 3
  · subst h3; exact key _ h.ret (by rw [v3]; rfl)
  by_cases h36 : i = 36
  · subst h36; exact key _ e5 rfl
  by_cases h37 : i = 37
  · subst h37; exact key _ h.output (by rw [v6]; rfl)
  by_cases h38 : i = 38
  · subst h38; exact key _ h.stop rfl
  have hm := h.mem (i - 4) (by omega)
  rw [show 4 + (i - 4) = i from by omega] at hm
  exact key _ hm rfl
theorem Ext.setRow {w wx : World} (h : Ext w wx) {g : Nat} (hg : w.heap.size ≤ g) (cs : Array Value) : Ext w (wx.setRow g cs) :=
  Below.trans h ⟨rfl, rfl, rfl, by simp [World.setRow], fun k hk => setRow_other wx g k cs (by omega)⟩
theorem mach_st {w F : World} {bm : Nat} {s : St} {cs : Array Value} {vd vr vo : Value} (h : MachIs w bm s cs vd vr vo) (hw : StWf s) (hk : ∀ g, bm ≤ g → g < w.heap.size → F.heap[g]? = w.heap[g]?) : StIs F cs s := by
  have hkb : ∀ g, ¬ Bad bm vd vr vo g → g < w.heap.size → F.heap[g]? = w.heap[g]? := fun g hg hl => hk g (Nat.le_of_lt (Nat.lt_of_not_le fun q => hg (.inl q))) hl
  have slat : ∀ {k : IntKind} {o : Option Value} {l : List Int}, SlFAt w k o l (Bad bm vd vr vo) → SlAt F k o l := by
    intro k o l hl
    obtain ⟨A, c, h1, h2, h3, h4, h5⟩ := hl.keep (bad' := fun _ => False) hkb (fun _ _ x => x.elim)
    exact ⟨A, c, h1, h2, h3, h4, h5.sl⟩
  have own : ∀ {e : TypeId} {k : IntKind} {v : Value} {l : List Int} {o : Option Value}, o = some v → w.ownsRow bm e 1 v l.length (l.map (Value.int k)) → SlAt F k o l := by
    intro e k v l o ho hw'
    obtain ⟨A, c, hv, h2, h3, h4, h5⟩ := own_sl (own_keep (w' := F) hw' fun g hg => hk g (own_lt hw' hg).1 (own_lt hw' hg).2)
    exact ⟨A, c, by rw [ho, hv], h2, h3, h4, h5⟩
  exact ⟨h.size, slat h.image, h.at_, own h.data h.datao, own h.ret h.reto, h.mem, slat h.input, own h.output h.outputo, h.stop, hw⟩
theorem run_fin {w wx : World} {cs : Array Value} {bm : Nat} {s : St} {n k : Nat} {sk : St} {cs' : Array Value} {v2 v3 v6 : Value} (h : Loopy w wx cs bm s n k sk cs' v2 v3 v6) (hlt : w.heap.size + 2 < bm) (_hok : OkSt s) (hf : runF n s = (sk, k)) :
    RunRet w ((runF ((n : Int)).toNat s).1, ((runF ((n : Int)).toNat s).2 : Int), (0, 0)) (.returned (.tuple #[.agg cs', .int .i64 (k : Int), .agg #[.int .i64 0, .int .i64 0]])) ((wx.setRow (w.heap.size + 1) cs').setRow (w.heap.size + 2) #[.int .i64 0, .int .i64 0]) := by
  rw [Int.toNat_natCast, hf]
  refine ⟨cs', rfl, fun F hF => mach_st h.m h.ok.wf fun g hg hl => ?_, (h.b.x.setRow (by omega) _).setRow (by omega) _⟩
  rw [hF g (by omega) (by simpa using hl), setRow_other _ _ _ _ (by omega), setRow_other _ _ _ _ (by omega)]
theorem copied_mid (cs : Array Value) (s : St) (n : Int) (w : World) (h : StIs w cs s) (hf : faultOf s = (0, 0)) (hn : 0 ≤ n ∧ n ≤ 60000) (hti : Tabs w) : Calls Tryd.prog 10 #[.agg cs, .int .i64 n] w (RunRet w (runG s n)) := by
  have he : runG s n = ((runF n.toNat s).1, ((runF n.toNat s).2 : Int), (0, 0)) := by unfold runG; rw [if_pos hf, if_pos hn]
  have HV := Lib.hid (fun (W : World) (hx : Ext w W) => hf ▸ Valid_c cs s W (h.ext hx))
  have hsz := h.size
  have HS := Lib.hid hsz
  have HH := Lib.hid h
  have HE := Lib.hid he
  have HOK := Lib.hid (ok_of h hf)
  obtain ⟨n0, n1⟩ := hn
  clear he hf h hsz
  go_enter Tryd.func10, Tryd.ntmps10
  go_upto_region 0 with (fail)
  go_cut [2, 4, 5, 6] (fun s2 s4 s5 s6 wx => s2 = .pointer (some ⟨w.heap.size, 0, none⟩) ∧ s4 = .pointer (some ⟨w.heap.size + 1, 0, none⟩) ∧ s5 = .int .i64 0 ∧ s6 = .pointer (some ⟨w.heap.size + 2, 0, none⟩) ∧ Begun w wx cs)
  case first =>
    go_wp2_with fail
    go_meet
    exact ⟨rfl, rfl, rfl, rfl, zeroSt_lit ▸ begun_mk w cs⟩
  case rest =>
    obtain ⟨rfl, rfl, rfl, rfl, hbg⟩ := hcut
    have HG0 := Lib.hid hbg.g0
    have HBG := Lib.hid hbg
    clear hbg
    go_wp2_with (refine wpList_load_row rfl 28 _ rfl w.heap.size rfl 28 cs (0, 0) _ HG0.out Tryd.underlying28 rfl (by rw [HS.out]; exact size28) ?_)
    refine (HV.out wc HBG.out.x).mono ?_
    rintro e w1 ⟨rfl, hx1⟩
    have HB1 := Lib.hid (HBG.out.ext hx1)
    have HG1 := Lib.hid (fun o => ext_heap ((Ext.refl w1).alloc o) HB1.out.g0)
    clear hx1
    simp only [fAgg]
    go_upto_region 6 with (fail)
    go_cut [8] (fun s8 wx => ∃ bm, s8 = .pointer (some ⟨bm, 0, none⟩) ∧ Copied w wx cs bm s cs)
    case first =>
      go_wp2_with (first | refine wpList_load_row rfl 28 _ rfl w.heap.size rfl 28 cs (0, 0) _ (HG1.out _) Tryd.underlying28 rfl (by rw [HS.out]; exact size28) ?_ | refine wpList_build_machine rfl _ rfl cs HS.out rfl ?_)
      go_meet
      refine ⟨_, rfl, HB1.out.ext (((Ext.refl w1).alloc _).alloc _), ?_, ?_⟩
      · have := heap_alloc_new (w1.alloc (.cells #[.int .i64 0, .int .i64 0] 30)) (.cells cs 53)
        simpa using this
      · have := HB1.out.lt
        simp
        omega
    case rest =>
      obtain ⟨bm, rfl, hcp⟩ := hcut
      obtain ⟨A0, c0, e0, l0, m0, q0, s0⟩ := HH.out.image
      obtain ⟨A2, c2, e2, l2, m2, q2, s2⟩ := HH.out.data
      obtain ⟨A3, c3, e3, l3, m3, q3, s3⟩ := HH.out.ret
      have hok := HOK.out
      have hil := hok.il
      have hdl := hok.dl
      have hrl := hok.rl
      have hxw : Ext w wc.drew := hcp.b.x.drew
      have HS0 := Lib.hid (s0.ext hxw)
      have HS2 := Lib.hid (s2.ext hxw)
      have HS3 := Lib.hid (s3.ext hxw)
      have z0 : wc.cell? ⟨w.heap.size, 0, none⟩ = some (.slice A0 s.image.length c0) := by rw [blk_cell hcp.b.g0]; exact e0
      have z2 : wc.cell? ⟨w.heap.size, 2, none⟩ = some (.slice A2 s.data.length c2) := by rw [blk_cell hcp.b.g0]; exact e2
      have z3 : wc.cell? ⟨w.heap.size, 3, none⟩ = some (.slice A3 s.ret.length c3) := by rw [blk_cell hcp.b.g0]; exact e3
      have hlt := hcp.lt
      have hbw : bm < wc.heap.size := (Array.getElem?_eq_some_iff.1 hcp.blk).1
      have HCP := Lib.hid hcp
      have HE0 := Lib.hid e0
      have HE2 := Lib.hid e2
      have HE3 := Lib.hid e3
      have hne : ¬ w.heap.size = bm := by omega
      have hne' : ¬ bm = w.heap.size := by omega
      clear hcp hxw hok e0 e2 e3 s0 s2 s3 m0 m2 m3
      go_upto_region 7 with (fail)
      go_cut [] (fun wx => ∃ v0 v2 v3, Copied7 w wx cs bm s v0 v2 v3)
      case first =>
        go_region_held3 (fun w' => w'.cell? ⟨w.heap.size, 0, none⟩ = some (.slice A0 s.image.length c0) ∧ w'.cell? ⟨w.heap.size, 2, none⟩ = some (.slice A2 s.data.length c2) ∧ w'.cell? ⟨w.heap.size, 3, none⟩ = some (.slice A3 s.ret.length c3))
          (first
            | go_keep
            | (go_split_ands
               refine ⟨?_, ?_, ?_⟩
               all_goals (first | exact Ext.cell hx3 (by assumption) | exact Ext.cell hx2 (by assumption) | exact Ext.cell hx0 (by assumption))))
          (first
            | (go_at_call 20; refine (Clone8_c A0 s.image c0 wc.drew (by omega) HS0.out q0).mono ?_; rintro e w2 ⟨v0, rfl, ho0, hx0⟩; obtain ⟨A0', c0', rfl, _, _, _, _⟩ := own_sl ho0)
            | (go_at_call 23; refine (Clone16_c A2 s.data c2 w2 (by omega) (HS2.out.ext hx0) q2).mono ?_; rintro e w3 ⟨v2, rfl, ho2, hx2⟩; obtain ⟨A2', c2', rfl, _, _, _, _⟩ := own_sl ho2)
            | (go_at_call 24; refine (Clone64_c A3 s.ret c3 w3 (by omega) ((HS3.out.ext hx0).ext hx2) q3).mono ?_; rintro e w4 ⟨v3, rfl, ho3, hx3⟩; obtain ⟨A3', c3', rfl, _, _, _, _⟩ := own_sl ho3; have hb4 := ext_heap (((((Ext.refl wc).drew).trans hx0).trans hx2).trans hx3) HCP.out.blk; have y0 : w4.cell? ⟨bm, 0, none⟩ = some (.slice A0 s.image.length c0) := (blk_cell hb4 0).trans HE0.out; have y2 : w4.cell? ⟨bm, 2, none⟩ = some (.slice A2 s.data.length c2) := (blk_cell hb4 2).trans HE2.out; have y3 : w4.cell? ⟨bm, 3, none⟩ = some (.slice A3 s.ret.length c3) := (blk_cell hb4 3).trans HE3.out; have x0 := blk_frozen hb4 0; have x2 := blk_frozen hb4 2; have x3 := blk_frozen hb4 3; have HB4 := Lib.hid hb4; clear hb4))
        go_wp2_with fail
        go_meet
        exact ⟨_, _, _, copied7_mk HCP.out hx0 hx2 hx3 ho0 ho2 ho3⟩
      case rest =>
        obtain ⟨v0, v2, v3, hc7⟩ := hcut
        obtain ⟨A5, c5, e5, l5, m5, q5, s5⟩ := HH.out.input
        obtain ⟨A6, c6, e6, l6, m6, q6, s6⟩ := HH.out.output
        have hok := HOK.out
        have hnl := hok.inl
        have hol := hok.ol
        have hxw : Ext w wc.drew := hc7.c.b.x.drew
        have HS5 := Lib.hid (s5.ext hxw)
        have HS6 := Lib.hid (s6.ext hxw)
        have z5 : wc.cell? ⟨w.heap.size, 36, none⟩ = some (.slice A5 s.input.length c5) := by rw [blk_cell hc7.c.b.g0]; exact e5
        have z6 : wc.cell? ⟨w.heap.size, 37, none⟩ = some (.slice A6 s.output.length c6) := by rw [blk_cell hc7.c.b.g0]; exact e6
        have hbw2 : bm < wc.heap.size := (Array.getElem?_eq_some_iff.1 hc7.c.blk).1
        have HE5 := Lib.hid (by rw [getD_set, if_neg (by decide), getD_set, if_neg (by decide), getD_set, if_neg (by decide)]; exact e5 : (((cs.setIfInBounds 0 v0).setIfInBounds 2 v2).setIfInBounds 3 v3)[36]? = some (.slice A5 s.input.length c5))
        have HE6 := Lib.hid (by rw [getD_set, if_neg (by decide), getD_set, if_neg (by decide), getD_set, if_neg (by decide)]; exact e6 : (((cs.setIfInBounds 0 v0).setIfInBounds 2 v2).setIfInBounds 3 v3)[37]? = some (.slice A6 s.output.length c6))
        have HC7 := Lib.hid hc7
        clear hc7 hxw hok e5 e6 s5 s6 m5 m6 z0 z2 z3
        go_upto_region 8 with (fail)
        go_cut [] (fun wx => ∃ cs' v6, Copied8 w wx cs bm s cs' v2 v3 v6)
        case first =>
          go_region_held3 (fun w' => w'.cell? ⟨w.heap.size, 36, none⟩ = some (.slice A5 s.input.length c5) ∧ w'.cell? ⟨w.heap.size, 37, none⟩ = some (.slice A6 s.output.length c6))
            (first
              | go_keep
              | (go_split_ands
                 refine ⟨?_, ?_⟩
                 all_goals (first | exact Ext.cell hx2 (by assumption) | exact Ext.cell hx0 (by assumption))))
            (first
              | (go_at_call_of 20 (Value.slice A5 s.input.length c5); refine (Clone8_c A5 s.input c5 wc.drew (by omega) HS5.out q5).mono ?_; rintro e w2 ⟨v5, rfl, ho5, hx0⟩; obtain ⟨A5', c5', rfl, _, _, _, _⟩ := own_sl ho5)
              | (go_at_call_of 20 (Value.slice A6 s.output.length c6); refine (Clone8_c A6 s.output c6 w2 (by omega) (HS6.out.ext hx0) q6).mono ?_; rintro e w3 ⟨v6, rfl, ho6, hx2⟩; obtain ⟨A6', c6', rfl, _, _, _, _⟩ := own_sl ho6; have hb4 := ext_heap ((((Ext.refl wc).drew).trans hx0).trans hx2) HC7.out.c.blk; have y5 : w3.cell? ⟨bm, 36, none⟩ = some (.slice A5 s.input.length c5) := (blk_cell hb4 36).trans HE5.out; have y6 : w3.cell? ⟨bm, 37, none⟩ = some (.slice A6 s.output.length c6) := (blk_cell hb4 37).trans HE6.out; have x5 := blk_frozen hb4 36; have x6 := blk_frozen hb4 37; clear hb4))
          go_wp2_with fail
          go_meet
          obtain ⟨cs', hc8⟩ := copied8_mk HH.out HC7.out hx0 hx2 ho5 ho6
          exact ⟨cs', _, hc8⟩
        case rest =>
          obtain ⟨cs', v6, hc8⟩ := hcut
          have htw : Tabs wc := hti.below hc8.b.x (tabs_lt hti)
          have HI := Lib.hid (Loopy.mk0 (n := n.toNat) hc8 htw HOK.out)
          clear hc8 htw HS5 HS6 HE5 HE6 HC7 z5 z6 hbw2
          obtain ⟨N, hN⟩ : ∃ N : Nat, n = N := ⟨n.toNat, by omega⟩
          subst hN
          go_wp2
          go_loopw [9] (fun v9 wx => ∃ k : Nat, ∃ sk cs' v2 v3 v6, k ≤ N ∧ v9 = .int .i64 k ∧ Loopy w wx cs bm s N k sk cs' v2 v3 v6) (fun v9 _ => N - (intOf v9).toNat)
          case atStart => exact ⟨0, s, cs', v2, v3, v6, Nat.zero_le _, rfl, HI.out⟩
          case round =>
            obtain ⟨k, sk, cs', v2, v3, v6, hk, rfl, hl⟩ := hrel
            have y7 : wr.cell? ⟨bm, 38, none⟩ = some (.int .i64 sk.stop) := by rw [hl.m.cell, hl.m.stop]
            by_cases hgo : k < N ∧ sk.stop = 0
            · obtain ⟨g1, g2⟩ := hgo
              have hst := step_all hl.m hl.ok hl.t (by omega)
              have HST := Lib.hid hst
              have HL := Lib.hid hl
              have HG2 := Lib.hid g2
              rw [g2] at y7
              clear hst hl g2
              go_wp2_with (go_at_call 25; refine HST.out.mono ?_; rintro e w' ⟨cs2, va, vb, vc, rfl, hm2, hb2⟩)
              refine ⟨⟨k + 1, stepF sk, cs2, va, vb, vc, by omega, by go_num, HL.out.next hlt g1 HG2.out hm2 hb2⟩, by simp [intOf]; omega⟩
            · have hfin := hl.fin hgo
              have HL := Lib.hid hl
              have HFIN := Lib.hid hfin
              have HE' := Lib.hid (HE.out)
              have hm := hl.m
              have hgb : wr.heap[bm]? = some (.cells cs' 53 (0, 0)) := hl.m.blk
              have hg1 := hl.b.g1
              have hg2 := hl.b.g2
              have HSZ' := Lib.hid hl.m.size
              have HGB := Lib.hid hgb
              have HG1' := Lib.hid hg1
              have HG2' := Lib.hid (setRow_other wr (w.heap.size + 1) (w.heap.size + 2) cs' (by omega) |>.trans hg2)
              have hcase : (N ≤ k) ∨ (k < N ∧ (sk.stop == 0) = false) := by
                by_cases q : k < N
                · right; exact ⟨q, by simp; intro h0; exact hgo ⟨q, h0⟩⟩
                · left; omega
              clear hl hfin hm hgb hg1 hg2 hgo
              rcases hcase with hc1 | ⟨hc1, hc2⟩
              all_goals go_wp2_with (first | refine wpList_load_row rfl 28 _ rfl bm rfl 53 cs' (0, 0) _ HGB.out Tryd.underlying28 rfl (by rw [HSZ'.out]; exact size28) ?_ | refine wpList_store_row rfl 28 _ _ rfl (w.heap.size + 1) cs' rfl rfl 28 zeroSt HG1'.out (by rw [HSZ'.out]; exact size28) (by rw [HSZ'.out]; rfl) (mach_one HL.out.m) ?_ | refine wpList_store_row rfl 30 _ _ rfl (w.heap.size + 2) #[.int .i64 0, .int .i64 0] rfl rfl 30 _ HG2'.out size30 rfl (by kernel_rfl) ?_)
              all_goals (
                refine bodyPost_ret (results_run rfl _ _ (w.heap.size + 1) (w.heap.size + 2) 28 30 cs' #[.int .i64 0, .int .i64 0] (0, 0) (0, 0) _ _ rfl ?_ Tryd.underlying28 rfl (by rw [HSZ'.out]; exact size28) rfl ?_ Tryd.underlying30 rfl size30) rfl ?_
                · rw [setRow_other _ _ _ _ (by omega)]; exact setRow_heap _ _ _ _ _ _ HG1'.out
                · exact setRow_heap _ _ _ _ _ _ HG2'.out
                · rw [HE.out]
                  exact run_fin HL.out hlt HOK.out HFIN.out)
end Go.Proofs.YtpooedfchjpndaaDoor
