import Derived.Test.YtbaahbpianingaaDoorMg14
import Derived.Deep.RegionHeld3
namespace Go.Proofs.YtbaahbpianingaaDoor
open Go Go.Proofs Go.RowKit
open Acc (Dk red five)
set_option maxHeartbeats 3200000
set_option maxRecDepth 100000
/-- The machine's box while its slices are being copied. -/
structure Copied (w wx : World) (cs : Array Value) (bm : Nat) : Prop where
  b : Begun w wx cs
  blk : wx.heap[bm]? = some (.cells cs 75 (0, 0))
  lt : w.heap.size + 2 < bm
theorem own_base {w : World} {base base' : Nat} {e : TypeId} {v : Value} {n : Nat} {xs : List Value} (h : w.ownsRow base e 1 v n xs) (hb : base' ≤ base) : w.ownsRow base' e 1 v n xs := by
  refine ⟨h.1, ?_⟩
  rcases h.2 with hn | ⟨g, cap, cur, hv, hg, r⟩
  · exact .inl hn
  · exact .inr ⟨g, cap, cur, hv, Nat.le_trans hb hg, r⟩
theorem own_ext {w w' : World} {base : Nat} {e : TypeId} {v : Value} {n : Nat} {xs : List Value} (h : w.ownsRow base e 1 v n xs) (x : Ext w w') : w'.ownsRow base e 1 v n xs :=
  own_keep h fun g hg => x.block g (own_lt h hg).2
theorem own_set_t {w : World} {base : Nat} {e : TypeId} {v : Value} {n : Nat} {xs : List Value} (h : w.ownsRow base e 1 v n xs) {bm : Nat} {cs : Array Value} {t : TypeId} (hb : w.heap[bm]? = some (.cells cs t (0, 0))) (he : e ≠ t) (j : Nat) (u : Value) : (w.setCell ⟨bm, j, none⟩ u).ownsRow base e 1 v n xs :=
  own_keep h fun g hg => Below.heap_setCell w ⟨bm, j, none⟩ u g (fun e' => own_ne h hb he (by rw [hg, e']))
theorem Begun.set {w wx : World} {cs : Array Value} (h : Begun w wx cs) {bm : Nat} (hb : w.heap.size + 2 < bm) (j : Nat) (u : Value) : Begun w (wx.setCell ⟨bm, j, none⟩ u) cs := by
  refine ⟨?_, ?_, ?_, h.x.setCell (p := ⟨bm, j, none⟩) (by show w.heap.size ≤ bm; omega) u⟩
  · rw [Below.heap_setCell wx ⟨bm, j, none⟩ u _ (by show w.heap.size ≠ bm; omega)]; exact h.g0
  · rw [Below.heap_setCell wx ⟨bm, j, none⟩ u _ (by show w.heap.size + 1 ≠ bm; omega)]; exact h.g1
  · rw [Below.heap_setCell wx ⟨bm, j, none⟩ u _ (by show w.heap.size + 2 ≠ bm; omega)]; exact h.g2
theorem Ext.trans' {w wx w1 : World} {bm : Nat} (h : Ext w wx) (x : Below bm wx w1) (hb : w.heap.size ≤ bm) : Ext w w1 := Below.trans h (Below.mono x hb)
theorem Begun.below {w wx w1 : World} {cs : Array Value} (h : Begun w wx cs) {bm : Nat} (hb : w.heap.size + 2 < bm) (x : Below bm wx w1) : Begun w w1 cs := by
  refine ⟨?_, ?_, ?_, h.x.trans' x (by omega)⟩
  · rw [x.block _ (by omega)]; exact h.g0
  · rw [x.block _ (by omega)]; exact h.g1
  · rw [x.block _ (by omega)]; exact h.g2
theorem own_slf {w : World} {base : Nat} {e : TypeId} {v : Value} {n : Nat} {xs : List Value} (h : w.ownsRow base e 1 v n xs) {bad : Nat → Prop} (hb : ∀ g, v.ownBlock = some g → ¬ bad g) : ∃ A c, v = .slice A n c ∧ n ≤ c ∧ c ≤ maxLen ∧ (A = none → c = 0) ∧ SlF w A xs bad := by
  obtain ⟨A, c, rfl, h1, h2, h3, h4⟩ := own_sl h
  refine ⟨A, c, rfl, h1, h2, h3, fun i u hu => ?_⟩
  obtain ⟨a, ha, hc⟩ := h4 i u hu
  exact ⟨a, ha, hc, hb _ (by rw [ha]; rfl)⟩
structure Copied8 (w wx : World) (cs : Array Value) (bm : Nat) (s : Dk) (cs' : Array Value) (v6 : Value) : Prop where
  m : MachIs wx bm s cs' v6
  b : Begun w wx cs
theorem copied8_mk {w wc w2 w3 : World} {cs : Array Value} {bm : Nat} {s : Dk} {v5 v6 : Value} (hi : DkIs w cs s) (h : Copied w wc cs bm) (hx0 : Ext wc.drew w2) (hx2 : Ext w2 w3)
    (ho5 : w2.ownsRow wc.drew.heap.size 5 1 v5 s.input.length (s.input.map (Value.int .u8))) (ho6 : w3.ownsRow w2.heap.size 5 1 v6 s.output.length (s.output.map (Value.int .u8))) :
    ∃ cs', Copied8 w ((w3.setCell ⟨bm, 105, none⟩ v5).setCell ⟨bm, 106, none⟩ v6) cs bm s cs' v6 := by
  have hlt : bm < wc.heap.size := (Array.getElem?_eq_some_iff.1 h.blk).1
  have e1 : wc.drew.heap.size = wc.heap.size := rfl
  have h2 := hx0.size
  have hx : Ext wc w3 := (((Ext.refl wc).drew).trans hx0).trans hx2
  have hb3 := ext_heap hx h.blk
  have hb4 := heap_set_self hb3 105 v5
  have hb5 := heap_set_self hb4 106 v6
  have hsz := hi.size
  have o5 := own_set_t (own_set_t (own_ext ho5 hx2) hb3 (by decide) 105 v5) hb4 (by decide) 106 v6
  have o6 := own_set_t (own_set_t ho6 hb3 (by decide) 105 v5) hb4 (by decide) 106 v6
  have b5 : ∀ g, v5.ownBlock = some g → ¬ Bad bm v6 g := by
    intro g hg hb
    have l1 := own_lt ho5 hg
    rcases hb with hb | hb
    · omega
    · have := (own_lt ho6 hb).1; omega
  obtain ⟨A5, c5, rfl, g1, g2, g3, g4⟩ := own_slf o5 b5
  refine ⟨_, ⟨hb5, by simpa using hsz, ?_, ?_, ?_, ?_, ?_, ?_, ⟨A5, c5, ?_, g1, g2, g3, g4⟩, ?_, own_base o6 (by omega), ?_, hi.wf.len⟩, ((h.b.ext hx).set h.lt 105 _).set h.lt 106 _⟩
  · intro i hi'
    rw [getD_set, if_neg (by omega), getD_set, if_neg (by omega)]; exact hi.words i hi'
  · rw [getD_set, if_neg (by decide), getD_set, if_neg (by decide)]; exact hi.at_
  · rw [getD_set, if_neg (by decide), getD_set, if_neg (by decide)]; exact hi.a
  · rw [getD_set, if_neg (by decide), getD_set, if_neg (by decide)]; exact hi.q
  · rw [getD_set, if_neg (by decide), getD_set, if_neg (by decide)]; exact hi.x
  · rw [getD_set, if_neg (by decide), getD_set, if_neg (by decide)]; exact hi.ov
  · rw [getD_set, if_neg (by decide), getD_set, if_pos rfl, if_pos (by omega)]
  · rw [getD_set, if_pos rfl, if_pos (by simp; omega)]
  · rw [getD_set, if_neg (by decide), getD_set, if_neg (by decide)]; exact hi.stop
theorem badI_three {a b c : Int} (h : badI [a, b, c] < 0) : five a = true ∧ five b = true ∧ five c = true := by
  have := badI_fine h
  exact ⟨this a (by simp), this b (by simp), this c (by simp)⟩
theorem ok_of {w : World} {cs : Array Value} {s : Dk} (h : DkIs w cs s) (hf : faultD s = (0, 0)) : OkSt s := by
  unfold faultD at hf
  split at hf
  · cases hf
  split at hf
  · cases hf
  split at hf
  · cases hf
  rename_i h1 h2 h3
  obtain ⟨f1, f2, f3⟩ := badI_three (a := s.a) (b := s.q) (c := s.x) (by omega)
  exact ⟨⟨h.wf.len, badI_fine (by omega), by omega, f1, f2, f3, by omega, h.wf.input, by omega, by omega⟩, h.wf.output⟩
theorem line_byt (n : Int) : Byt (Acc.lineF n) := signed_byt' n
theorem jump_out (s : Dk) (a : Int) (b : Bool) : (Acc.jumpF s a b).output = s.output := by unfold Acc.jumpF; split <;> rfl
theorem eff_out (s : Dk) (op a : Int) : (Acc.effF s op a).output = s.output ∨ (Acc.effF s op a).output = s.output ++ Acc.lineF s.a := by
  unfold Acc.effF
  by_cases c0 : op = 0
  · rw [if_pos c0]; exact .inl rfl
  rw [if_neg c0]
  by_cases c1 : op = 1
  · rw [if_pos c1]; exact .inl rfl
  rw [if_neg c1]
  by_cases c2 : op = 2
  · rw [if_pos c2]; exact .inl rfl
  rw [if_neg c2]
  by_cases c3 : op = 3
  · rw [if_pos c3]; exact .inl rfl
  rw [if_neg c3]
  by_cases c4 : op = 4
  · rw [if_pos c4]; exact .inl rfl
  rw [if_neg c4]
  by_cases c5 : op = 5
  · rw [if_pos c5]; exact .inl rfl
  rw [if_neg c5]
  by_cases c6 : op = 6
  · rw [if_pos c6]; exact .inl rfl
  rw [if_neg c6]
  by_cases c7 : op = 7
  · rw [if_pos c7]; exact .inl (jump_out _ _ _)
  rw [if_neg c7]
  by_cases c8 : op = 8
  · rw [if_pos c8]; exact .inl (jump_out _ _ _)
  rw [if_neg c8]
  by_cases c9 : op = 9
  · rw [if_pos c9]; exact .inl (jump_out _ _ _)
  rw [if_neg c9]
  by_cases c10 : op = 10
  · rw [if_pos c10]; exact .inl (jump_out _ _ _)
  rw [if_neg c10]
  by_cases c11 : op = 11
  · rw [if_pos c11]; exact .inl rfl
  rw [if_neg c11]
  by_cases c12 : op = 12
  · rw [if_pos c12]; exact .inl (jump_out _ _ _)
  rw [if_neg c12]
  by_cases c13 : op = 13
  · rw [if_pos c13]; split <;> exact .inl rfl
  rw [if_neg c13]
  by_cases c14 : op = 14
  · rw [if_pos c14]; exact .inr rfl
  rw [if_neg c14]
  by_cases c15 : op = 15
  · rw [if_pos c15]; exact .inl rfl
  rw [if_neg c15]
  by_cases c16 : op = 16
  · rw [if_pos c16]; exact .inl rfl
  rw [if_neg c16]
  exact .inl rfl
theorem okst_step {s : Dk} (h : OkSt s) : OkSt (Acc.stepF s) := by
  refine ⟨Acc.step_ok h.ok, ?_⟩
  have hb := h.outb
  have hl := line_byt s.a
  unfold Acc.stepF
  split
  · have he : ∀ (s : Dk) (op a : Int), Byt s.output → Byt (Acc.lineF s.a) → Byt (Acc.effF s op a).output := by
      intro s op a h1 h2
      rcases eff_out s op a with q | q
      · rw [q]; exact h1
      · rw [q]
        intro x hx
        rcases List.mem_append.1 hx with q | q
        · exact h1 x q
        · exact h2 x q
    exact he { s with at_ := s.at_ + 1 } _ _ hb hl
  · exact hb
theorem tabs_lt : 2 ≤ 2 := Nat.le_refl 2
/-- The loop of Run: after k steps. -/
structure Loopy (w wx : World) (cs : Array Value) (bm : Nat) (s : Dk) (n k : Nat) (sk : Dk) (cs' : Array Value) (v6 : Value) : Prop where
  m : MachIs wx bm sk cs' v6
  b : Begun w wx cs
  t : Tabs wx
  ok : OkSt sk
  run : Acc.runF n s = ((Acc.runF (n - k) sk).1, (Acc.runF (n - k) sk).2 + k)
theorem Loopy.mk0 {w wx : World} {cs : Array Value} {bm : Nat} {s : Dk} {n : Nat} {cs' : Array Value} {v6 : Value} (h : Copied8 w wx cs bm s cs' v6) (ht : Tabs wx) (ho : OkSt s) : Loopy w wx cs bm s n 0 s cs' v6 :=
  ⟨h.m, h.b, ht, ho, by simp⟩
theorem Loopy.next {w wx w1 : World} {cs : Array Value} {bm : Nat} {s : Dk} {n k : Nat} {sk : Dk} {cs' cs2 : Array Value} {v6 vc : Value} (h : Loopy w wx cs bm s n k sk cs' v6) (hlt : w.heap.size + 2 < bm) (h8 : 2 ≤ bm) (hk : k < n) (hs : sk.stop = 0)
    (hm : MachIs w1 bm (Acc.stepF sk) cs2 vc) (hb : Below bm wx w1) : Loopy w w1 cs bm s n (k + 1) (Acc.stepF sk) cs2 vc := by
  refine ⟨hm, h.b.below hlt hb, h.t.below hb h8, okst_step h.ok, ?_⟩
  rw [h.run, show n - k = (n - (k + 1)) + 1 from by omega]
  simp only [Acc.runF, hs, if_true]
  rw [Nat.add_assoc, Nat.add_comm 1 k]
theorem Loopy.fin {w wx : World} {cs : Array Value} {bm : Nat} {s : Dk} {n k : Nat} {sk : Dk} {cs' : Array Value} {v6 : Value} (h : Loopy w wx cs bm s n k sk cs' v6) (hk : ¬ (k < n ∧ sk.stop = 0)) : Acc.runF n s = (sk, k) := by
  rw [h.run]
  cases hn : n - k with
  | zero => simp [Acc.runF]
  | succ m =>
    have : ¬ sk.stop = 0 := fun hs => hk ⟨by omega, hs⟩
    simp [Acc.runF, this]
theorem cells_one {cs : Array Value} (hsz : cs.size = 108) (hw : ∀ i, i < 100 → ∃ x, cs[i]? = some (.int .i64 x)) (h : ∀ i, 100 ≤ i → i < 108 → ∃ v, cs[i]? = some v ∧ v.oneCell' = true) : cs.all (·.oneCell') = true := by
  rw [Array.all_eq_true]
  intro i hi
  have key : ∀ v, cs[i]? = some v → v.oneCell' = true → cs[i].oneCell' = true := by
    intro v hv ho
    rw [Array.getElem?_eq_getElem hi] at hv
    cases hv
    exact ho
  by_cases q : i < 100
  · obtain ⟨x, hx⟩ := hw i q; exact key _ hx rfl
  · obtain ⟨v, hv, ho⟩ := h i (by omega) (by omega); exact key _ hv ho
theorem tail_one {cs : Array Value} {b0 b1 b2 b3 b7 : Int} {ov : Bool} {A B : Option Addr} {n c m d : Nat} (h0 : cs[100]? = some (.int .i64 b0)) (h1 : cs[101]? = some (.int .i64 b1)) (h2 : cs[102]? = some (.int .i64 b2)) (h3 : cs[103]? = some (.int .i64 b3)) (h4 : cs[104]? = some (.bool ov))
    (h5 : cs[105]? = some (.slice A n c)) (h6 : cs[106]? = some (.slice B m d)) (h7 : cs[107]? = some (.int .i64 b7)) : ∀ i, 100 ≤ i → i < 108 → ∃ v, cs[i]? = some v ∧ v.oneCell' = true := by
  intro i h100 h108
  have : i = 100 ∨ i = 101 ∨ i = 102 ∨ i = 103 ∨ i = 104 ∨ i = 105 ∨ i = 106 ∨ i = 107 := by omega
  rcases this with rfl | rfl | rfl | rfl | rfl | rfl | rfl | rfl
  · exact ⟨_, h0, rfl⟩
  · exact ⟨_, h1, rfl⟩
  · exact ⟨_, h2, rfl⟩
  · exact ⟨_, h3, rfl⟩
  · exact ⟨_, h4, rfl⟩
  · exact ⟨_, h5, rfl⟩
  · exact ⟨_, h6, rfl⟩
  · exact ⟨_, h7, rfl⟩
theorem mach_one {w : World} {bm : Nat} {s : Dk} {cs : Array Value} {vo : Value} (h : MachIs w bm s cs vo) : cs.all (·.oneCell') = true := by
  obtain ⟨A5, c5, e5, _⟩ := h.input
  obtain ⟨A6, c6, v6, _⟩ := own_sl h.outputo
  exact cells_one h.size (fun i hi => ⟨_, h.words i hi⟩) (tail_one h.at_ h.a h.q h.x h.ov e5 (by rw [h.output, v6]) h.stop)
theorem dk_one {w : World} {s : Dk} {cs : Array Value} (h : DkIs w cs s) : cs.all (·.oneCell') = true := by
  obtain ⟨A5, c5, e5, _⟩ := h.input
  obtain ⟨A6, c6, e6, _⟩ := h.output
  exact cells_one h.size (fun i hi => ⟨_, h.words i hi⟩) (tail_one h.at_ h.a h.q h.x h.ov e5 e6 h.stop)
theorem five_i64 {n : Int} (h : five n = true) : I64 n := by have := Acc.five_iff.1 h; exact ⟨by omega, by omega⟩
theorem ok_wf {s : Dk} (h : OkSt s) : DkWf s := by
  have k := h.ok
  have h1 := k.at_
  have h2 := k.stop
  exact ⟨k.len, fun n hn => five_i64 (k.words n hn), ⟨by omega, by omega⟩, five_i64 k.a, five_i64 k.q, five_i64 k.x, k.byt, h.outb, ⟨by omega, by omega⟩⟩
theorem mach_dk {w F : World} {bm : Nat} {s : Dk} {cs : Array Value} {vo : Value} (h : MachIs w bm s cs vo) (hw : DkWf s) (hk : ∀ g, bm ≤ g → g < w.heap.size → F.heap[g]? = w.heap[g]?) : DkIs F cs s := by
  have hkb : ∀ g, ¬ Bad bm vo g → g < w.heap.size → F.heap[g]? = w.heap[g]? := fun g hg hl => hk g (Nat.le_of_lt (Nat.lt_of_not_le fun q => hg (.inl q))) hl
  refine ⟨h.size, h.words, h.at_, h.a, h.q, h.x, h.ov, ?_, ?_, h.stop, hw⟩
  · obtain ⟨A, c, h1, h2, h3, h4, h5⟩ := h.input.keep (bad' := fun _ => False) hkb (fun _ _ x => x.elim)
    exact ⟨A, c, h1, h2, h3, h4, h5.sl⟩
  · obtain ⟨A, c, hv, h2, h3, h4, h5⟩ := own_sl (own_keep (w' := F) h.outputo fun g hg => hk g (own_lt h.outputo hg).1 (own_lt h.outputo hg).2)
    exact ⟨A, c, by rw [h.output, hv], h2, h3, h4, h5⟩
theorem run_fin {w wx : World} {cs : Array Value} {bm : Nat} {s : Dk} {n k : Nat} {sk : Dk} {cs' : Array Value} {v6 : Value} (h : Loopy w wx cs bm s n k sk cs' v6) (hlt : w.heap.size + 2 < bm) (hf : Acc.runF n s = (sk, k)) :
    RunRet w ((Acc.runF ((n : Int)).toNat s).1, ((Acc.runF ((n : Int)).toNat s).2 : Int), (0, 0)) (.returned (.tuple #[.agg cs', .int .i64 (k : Int), .agg #[.int .i64 0, .int .i64 0]])) ((wx.setRow (w.heap.size + 1) cs').setRow (w.heap.size + 2) #[.int .i64 0, .int .i64 0]) := by
  rw [Int.toNat_natCast, hf]
  refine ⟨cs', rfl, fun F hF => mach_dk h.m (ok_wf h.ok) fun g hg hl => ?_, (h.b.x.setRow (by omega) _).setRow (by omega) _⟩
  rw [hF g (by omega) (by simpa using hl), setRow_other _ _ _ _ (by omega), setRow_other _ _ _ _ (by omega)]
theorem run_good (cs : Array Value) (s : Dk) (n : Int) (w : World) (h : DkIs w cs s) (hf : faultD s = (0, 0)) (hn : 0 ≤ n ∧ n ≤ 60000) (hti : Tabs w) (h8 : 2 ≤ w.heap.size) : Calls Tryd.prog 16 #[.agg cs, .int .i64 n] w (RunRet w (runG s n)) := by
  have he : runG s n = ((Acc.runF n.toNat s).1, ((Acc.runF n.toNat s).2 : Int), (0, 0)) := by unfold runG; rw [if_pos hf, if_pos hn]
  have HV := Lib.hid (fun (W : World) (hx : Ext w W) => hf ▸ Valid_c cs s W (h.ext hx))
  have hsz := h.size
  have HS := Lib.hid hsz
  have HH := Lib.hid h
  have HE := Lib.hid he
  have HOK := Lib.hid (ok_of h hf)
  have HTI := Lib.hid hti
  obtain ⟨n0, n1⟩ := hn
  clear he hf h hsz hti
  go_enter Tryd.func16, Tryd.ntmps16
  go_upto_region 0 with (fail)
  go_cut [2, 4, 5, 6] (fun s2 s4 s5 s6 wx => s2 = .pointer (some ⟨w.heap.size, 0, none⟩) ∧ s4 = .pointer (some ⟨w.heap.size + 1, 0, none⟩) ∧ s5 = .int .i64 0 ∧ s6 = .pointer (some ⟨w.heap.size + 2, 0, none⟩) ∧ Begun w wx cs)
  case first =>
    go_wp2_with (refine wpList_allocS rfl rfl ?_)
    go_meet
    exact ⟨rfl, rfl, rfl, rfl, begun_mk w cs⟩
  case rest =>
    obtain ⟨rfl, rfl, rfl, rfl, hbg⟩ := hcut
    have HG0 := Lib.hid hbg.g0
    have HBG := Lib.hid hbg
    clear hbg
    go_wp2_with (refine wpList_load_row rfl 25 _ rfl w.heap.size rfl 25 cs (0, 0) _ HG0.out Tryd.underlying25 rfl (by rw [HS.out]; exact sizeS) ?_)
    refine (HV.out wc HBG.out.x).mono ?_
    rintro e w1 ⟨rfl, hx1⟩
    have HB1 := Lib.hid (HBG.out.ext hx1)
    have HG1 := Lib.hid (fun o => ext_heap ((Ext.refl w1).alloc o) HB1.out.g0)
    clear hx1
    simp only [fAgg]
    go_upto_region 6 with (fail)
    go_cut [8] (fun s8 wx => ∃ bm, s8 = .pointer (some ⟨bm, 0, none⟩) ∧ Copied w wx cs bm)
    case first =>
      go_wp2_with (first | refine wpList_load_row rfl 25 _ rfl w.heap.size rfl 25 cs (0, 0) _ (HG1.out _) Tryd.underlying25 rfl (by rw [HS.out]; exact sizeS) ?_ | refine wpList_build_machine rfl _ rfl cs HS.out rfl ?_)
      go_meet
      refine ⟨_, rfl, HB1.out.ext (((Ext.refl w1).alloc _).alloc _), ?_, ?_⟩
      · have := heap_alloc_new (w1.alloc (.cells #[.int .i64 0, .int .i64 0] 28)) (.cells cs 75)
        simpa using this
      · have := HB1.out.lt
        simp
        omega
    case rest =>
      obtain ⟨bm, rfl, hcp⟩ := hcut
      obtain ⟨A5, c5, e5, l5, m5, q5, s5⟩ := HH.out.input
      obtain ⟨A6, c6, e6, l6, m6, q6, s6⟩ := HH.out.output
      have hnl := HOK.out.ok.input
      have hol := HOK.out.ok.output
      have hxw : Ext w wc.drew := hcp.b.x.drew
      have HS5 := Lib.hid (s5.ext hxw)
      have HS6 := Lib.hid (s6.ext hxw)
      have z5 : wc.cell? ⟨w.heap.size, 105, none⟩ = some (.slice A5 s.input.length c5) := by rw [blk_cell hcp.b.g0]; exact e5
      have z6 : wc.cell? ⟨w.heap.size, 106, none⟩ = some (.slice A6 s.output.length c6) := by rw [blk_cell hcp.b.g0]; exact e6
      have hlt := hcp.lt
      have hbw2 : bm < wc.heap.size := (Array.getElem?_eq_some_iff.1 hcp.blk).1
      have HCP := Lib.hid hcp
      have HE5 := Lib.hid e5
      have HE6 := Lib.hid e6
      have hne : ¬ w.heap.size = bm := by omega
      have hne' : ¬ bm = w.heap.size := by omega
      clear hcp hxw e5 e6 s5 s6 m5 m6
      go_upto_region 7 with (fail)
      go_cut [] (fun wx => ∃ cs' v6, Copied8 w wx cs bm s cs' v6)
      case first =>
        go_region_held3 (fun w' => w'.cell? ⟨w.heap.size, 105, none⟩ = some (.slice A5 s.input.length c5) ∧ w'.cell? ⟨w.heap.size, 106, none⟩ = some (.slice A6 s.output.length c6))
          (first
            | go_keep
            | (go_split_ands
               refine ⟨?_, ?_⟩
               all_goals (first | exact Ext.cell hx2 (by assumption) | exact Ext.cell hx0 (by assumption))))
          (first
            | (go_at_call_of 41 (Value.slice A5 s.input.length c5); refine (Clone8_c A5 s.input c5 wc.drew (by omega) HS5.out q5).mono ?_; rintro e w2 ⟨v5, rfl, ho5, hx0⟩; obtain ⟨A5', c5', rfl, _, _, _, _⟩ := own_sl ho5)
            | (go_at_call_of 41 (Value.slice A6 s.output.length c6); refine (Clone8_c A6 s.output c6 w2 (by omega) (HS6.out.ext hx0) q6).mono ?_; rintro e w3 ⟨v6, rfl, ho6, hx2⟩; obtain ⟨A6', c6', rfl, _, _, _, _⟩ := own_sl ho6; have hb4 := ext_heap ((((Ext.refl wc).drew).trans hx0).trans hx2) HCP.out.blk; have y5 : w3.cell? ⟨bm, 105, none⟩ = some (.slice A5 s.input.length c5) := (blk_cell hb4 105).trans HE5.out; have y6 : w3.cell? ⟨bm, 106, none⟩ = some (.slice A6 s.output.length c6) := (blk_cell hb4 106).trans HE6.out; have x5 := blk_frozen hb4 105; have x6 := blk_frozen hb4 106; clear hb4))
        go_wp2_with fail
        go_meet
        obtain ⟨cs', hc8⟩ := copied8_mk HH.out HCP.out hx0 hx2 ho5 ho6
        exact ⟨cs', _, hc8⟩
      case rest =>
        obtain ⟨cs', v6, hc8⟩ := hcut
        have htw : Tabs wc := HTI.out.below hc8.b.x h8
        have HI := Lib.hid (Loopy.mk0 (n := n.toNat) hc8 htw HOK.out)
        clear hc8 htw HS5 HS6 HE5 HE6 HCP z5 z6 hbw2
        obtain ⟨N, hN⟩ : ∃ N : Nat, n = N := ⟨n.toNat, by omega⟩
        subst hN
        go_wp2
        go_loopw [10] (fun v9 wx => ∃ k : Nat, ∃ sk cs' v6, k ≤ N ∧ v9 = .int .i64 k ∧ Loopy w wx cs bm s N k sk cs' v6) (fun v9 _ => N - (intOf v9).toNat)
        case atStart => exact ⟨0, s, cs', v6, Nat.zero_le _, rfl, HI.out⟩
        case round =>
          obtain ⟨k, sk, cs', v6, hk, rfl, hl⟩ := hrel
          have y7 : wr.cell? ⟨bm, 107, none⟩ = some (.int .i64 sk.stop) := by rw [hl.m.cell, hl.m.stop]
          by_cases hgo : k < N ∧ sk.stop = 0
          · obtain ⟨g1, g2⟩ := hgo
            have hst := step_all hl.m hl.ok hl.t (by omega)
            have HST := Lib.hid hst
            have HL := Lib.hid hl
            have HG2 := Lib.hid g2
            rw [g2] at y7
            clear hst hl g2
            go_wp2_with (go_at_call 44; refine HST.out.mono ?_; rintro e w' ⟨rfl, cs2, vc, hm2, hb2⟩)
            refine ⟨⟨k + 1, Acc.stepF sk, cs2, vc, by omega, by go_num, HL.out.next hlt (by omega) g1 HG2.out hm2 hb2⟩, by simp [intOf]; omega⟩
          · have hfin := hl.fin hgo
            have HL := Lib.hid hl
            have HFIN := Lib.hid hfin
            have hgb : wr.heap[bm]? = some (.cells cs' 75 (0, 0)) := hl.m.blk
            have hg1 := hl.b.g1
            have hg2 := hl.b.g2
            have HSZ' := Lib.hid hl.m.size
            have HGB := Lib.hid hgb
            have HG1' := Lib.hid hg1
            have HG2' := Lib.hid (setRow_other wr (w.heap.size + 1) (w.heap.size + 2) cs' (by omega) |>.trans hg2)
            have hcase : (N ≤ k) ∨ (k < N ∧ (sk.stop == 0) = false) := by
              by_cases q : k < N
              · right; exact ⟨q, by simp; intro h0; exact hgo ⟨q, h0⟩⟩
              · left; omega
            clear hl hfin hgb hg1 hg2 hgo
            rcases hcase with hc1 | ⟨hc1, hc2⟩
            all_goals go_wp2_with (first | refine wpList_load_row rfl 25 _ rfl bm rfl 75 cs' (0, 0) _ HGB.out Tryd.underlying25 rfl (by rw [HSZ'.out]; exact sizeS) ?_ | refine wpList_store_row rfl 25 _ _ rfl (w.heap.size + 1) cs' rfl rfl 25 zeroDk HG1'.out (by rw [HSZ'.out]; exact sizeS) (by rw [HSZ'.out]; rfl) (mach_one HL.out.m) ?_ | refine wpList_store_row rfl 28 _ _ rfl (w.heap.size + 2) #[.int .i64 0, .int .i64 0] rfl rfl 28 _ HG2'.out sizeF rfl (by kernel_rfl) ?_)
            all_goals (
              refine bodyPost_ret (results_run rfl _ _ (w.heap.size + 1) (w.heap.size + 2) 25 28 cs' #[.int .i64 0, .int .i64 0] (0, 0) (0, 0) _ _ rfl ?_ Tryd.underlying25 rfl (by rw [HSZ'.out]; exact sizeS) rfl ?_ Tryd.underlying28 rfl sizeF) rfl ?_
              · rw [setRow_other _ _ _ _ (by omega)]; exact setRow_heap _ _ _ _ _ _ HG1'.out
              · exact setRow_heap _ _ _ _ _ _ HG2'.out
              · rw [HE.out]
                exact run_fin HL.out hlt HFIN.out)
theorem run_all (cs : Array Value) (s : Dk) (n : Int) (w : World) (h : DkIs w cs s) (ht : Tabs w) (h8 : 2 ≤ w.heap.size) : Calls Tryd.prog 16 #[.agg cs, .int .i64 n] w (RunRet w (runG s n)) := by
  by_cases hf : faultD s = (0, 0)
  · by_cases hn : 0 ≤ n ∧ n ≤ 60000
    · exact run_good cs s n w h hf hn ht h8
    · exact run_range cs s n w h hf hn
  · exact run_bad cs s n w h hf
end Go.Proofs.YtbaahbpianingaaDoor
