import Derived.Test.YtbaahbpianingaaGreatDoorMg15
import Derived.Test.YtbaahbpianingaaGreatDoorMg4
namespace Go.Proofs.YtbaahbpianingaaGreatDoor
open Go Go.Proofs Go.RowKit
open Tape (Rule Ts)
set_option maxHeartbeats 6400000
set_option maxRecDepth 100000
def tapeOf (l : List Int) : List Int := if l = [] then [0] else l
def startGT (L : List Rule) (l : List Int) : Ts × (Int × Int) :=
  if faultR L = (0, 0) then (if 200 < l.length then (ts0, (9, -2)) else if badB l = true then (ts0, (4, -2)) else ({ ts0 with rules := L, cells := tapeOf l }, (0, 0))) else (ts0, faultR L)
theorem faultR_ne {L : List Rule} {c i : Int} (h : faultR L = (c, i)) (hn : faultR L ≠ (0, 0)) : (c == 0) = false := by
  have := faultR_code hn
  rw [h] at this
  simpa using this
structure TwoT (w wx : World) : Prop where
  g0 : wx.heap[w.heap.size]? = some (.cells zeroTs 25 (0, 0))
  g1 : wx.heap[w.heap.size + 1]? = some (.cells #[.int .i64 0, .int .i64 0] 27 (0, 0))
  x : Ext w wx
theorem TwoT.ext {w wx w1 : World} (h : TwoT w wx) (e : Ext wx w1) : TwoT w w1 := ⟨ext_heap e h.g0, ext_heap e h.g1, h.x.trans e⟩
theorem TwoT.lt {w wx : World} (h : TwoT w wx) : w.heap.size + 1 < wx.heap.size := (Array.getElem?_eq_some_iff.1 h.g1).1
theorem twoT_mk (w : World) : TwoT w ((w.alloc (.cells zeroTs 25)).alloc (.cells #[.int .i64 0, .int .i64 0] 27)) :=
  ⟨heap_alloc2_old w _ _, heap_alloc2_new w _ _, ((Ext.refl w).alloc _).alloc _⟩
theorem twoT_fin {w W : World} {c i : Int} (h : TwoT w W) : SRetT w (ts0, (c, i)) (.returned (.tuple #[.agg zeroTs, .agg #[.int .i64 c, .int .i64 i]])) ((W.setRow w.heap.size zeroTs).setRow (w.heap.size + 1) #[.int .i64 c, .int .i64 i]) :=
  ⟨zeroTs, rfl, fun F _ => zeroT_is F, (h.x.setRow (by omega) _).setRow (by omega) _⟩
theorem startT_bad (A B : Option Addr) (L : List Rule) (m : List Int) (c' d' : Nat) (w : World) (hl : L.length ≤ maxLen) (h1 : Rls w A L) (hwf : ∀ r ∈ L, RuleWf r) (hf : faultR L ≠ (0, 0)) :
    Calls Tryz.prog 5 #[.slice A L.length c', .slice B m.length d'] w (SRetT w (startGT L m)) := by
  have he : startGT L m = (ts0, faultR L) := by unfold startGT; rw [if_neg hf]
  rw [he]
  have HC := Lib.hid (fun (W : World) (hx : Ext w W) => checkRules_c A L c' W hl (h1.ext hx) hwf)
  obtain ⟨p, hp⟩ : ∃ p, faultR L = p := ⟨_, rfl⟩
  obtain ⟨c, i⟩ := p
  have q1 := faultR_ne hp hf
  have q2 : ¬ c = 0 := by simpa using q1
  rw [hp] at HC ⊢
  clear hp he hf h1 hwf
  go_enter Tryz.func5, Tryz.ntmps5
  go_upto_region 0 with (fail)
  go_cut [4, 5] (fun s4 s5 wx => s4 = .pointer (some ⟨w.heap.size, 0, none⟩) ∧ s5 = .pointer (some ⟨w.heap.size + 1, 0, none⟩) ∧ TwoT w wx)
  case first =>
    go_wp2_with (refine wpList_allocQ rfl rfl ?_)
    go_meet
    exact ⟨rfl, rfl, twoT_mk w⟩
  case rest =>
    obtain ⟨rfl, rfl, htw⟩ := hcut
    have HT := Lib.hid htw
    clear htw
    go_wp2_with fail
    refine (HC.out wc HT.out.x).mono ?_
    rintro e w1 ⟨rfl, hx1⟩
    have HT1 := Lib.hid (HT.out.ext hx1)
    have hlt1 := HT1.out.lt
    clear hx1
    simp only [fAgg]
    go_upto_region 3 with (fail)
    have HT2 := Lib.hid ((HT1.out.ext ((Ext.refl w1).alloc (.cells #[.int .i64 c, .int .i64 i] 27))).ext ((Ext.refl _).drew))
    have HF0 := Lib.hid (heap_alloc_new w1 (.cells #[.int .i64 c, .int .i64 i] 27))
    refine wp_region_any (by kernel_rfl) ?_
    refine wpAny_take (i := 0) (v := .agg zeroTs) rfl (by kernel_rfl) (by kernel_rfl) (by kernel_rfl) (fun _ _ _ h => h) (Or.inl ⟨by rfl, fun w => ?_⟩) ?_
    · kernel_rfl
    refine wpAny_ready (rs := [1, 2]) (by kernel_rfl) (by simp) ?_
    refine (AllReady.cons rfl (fun K hK => ?_) (AllReady.cons rfl (fun K hK => ?_) AllReady.nil))
    · refine step_load_row rfl 27 _ rfl w1.heap.size (by first | (simp [Act.eval]; done) | simp [Act.eval, Act.put]) 27 #[.int .i64 c, .int .i64 i] (0, 0) _ (by first | exact HF0.out | exact (setRow_other _ _ _ _ (by omega)).trans HF0.out) Tryz.underlying27 rfl sizeF ?_
      refine hK _ _ ?_
      clear hK K
      refine wpAny_ready (rs := [2]) (by kernel_rfl) (by simp) ?_
      refine (AllReady.cons rfl (fun K hK => ?_) AllReady.nil)
      · refine step_store_row rfl 25 _ _ rfl w.heap.size zeroTs (by first | (simp [Act.eval]; done) | simp [Act.eval, Act.put]) (by first | (simp [Act.eval]; done) | simp [Act.eval, Act.put]) 25 zeroTs HT2.out.g0 sizeQ rfl zeroT_one ?_
        refine hK _ _ ?_
        clear hK K
        refine wpAny_ready (rs := [3]) (by kernel_rfl) (by simp) ?_
        refine (AllReady.cons rfl (fun K hK => ?_) AllReady.nil)
        · refine step_store_row rfl 27 _ _ rfl (w.heap.size + 1) #[.int .i64 c, .int .i64 i] (by first | (simp [Act.eval]; done) | simp [Act.eval, Act.put]) (by first | (simp [Act.eval]; done) | simp [Act.eval, Act.put]) 27 _ ((setRow_other _ _ _ _ (by omega)).trans HT2.out.g1) sizeF rfl (by kernel_rfl) ?_
          refine hK _ _ ?_
          clear hK K
          refine wpAny_done (by kernel_rfl) ?_ _
          go_wp2_with fail
          refine bodyPost_ret (results_two rfl _ _ w.heap.size (w.heap.size + 1) 25 27 zeroTs #[.int .i64 c, .int .i64 i] (0, 0) (0, 0) _ _ rfl ?_ Tryz.underlying25 rfl sizeQ rfl ?_ Tryz.underlying27 rfl sizeF) rfl (twoT_fin HT2.out)
          · rw [setRow_other _ _ _ _ (by omega)]; exact setRow_heap _ _ _ _ _ _ HT2.out.g0
          · exact setRow_heap _ _ _ _ _ _ ((setRow_other _ _ _ _ (by omega)).trans HT2.out.g1)
    · refine step_store_row rfl 25 _ _ rfl w.heap.size zeroTs (by first | (simp [Act.eval]; done) | simp [Act.eval, Act.put]) (by first | (simp [Act.eval]; done) | simp [Act.eval, Act.put]) 25 zeroTs HT2.out.g0 sizeQ rfl zeroT_one ?_
      refine hK _ _ ?_
      clear hK K
      refine wpAny_ready (rs := [1]) (by kernel_rfl) (by simp) ?_
      refine (AllReady.cons rfl (fun K hK => ?_) AllReady.nil)
      · refine step_load_row rfl 27 _ rfl w1.heap.size (by first | (simp [Act.eval]; done) | simp [Act.eval, Act.put]) 27 #[.int .i64 c, .int .i64 i] (0, 0) _ (by first | exact HF0.out | exact (setRow_other _ _ _ _ (by omega)).trans HF0.out) Tryz.underlying27 rfl sizeF ?_
        refine hK _ _ ?_
        clear hK K
        refine wpAny_ready (rs := [3]) (by kernel_rfl) (by simp) ?_
        refine (AllReady.cons rfl (fun K hK => ?_) AllReady.nil)
        · refine step_store_row rfl 27 _ _ rfl (w.heap.size + 1) #[.int .i64 c, .int .i64 i] (by first | (simp [Act.eval]; done) | simp [Act.eval, Act.put]) (by first | (simp [Act.eval]; done) | simp [Act.eval, Act.put]) 27 _ ((setRow_other _ _ _ _ (by omega)).trans HT2.out.g1) sizeF rfl (by kernel_rfl) ?_
          refine hK _ _ ?_
          clear hK K
          refine wpAny_done (by kernel_rfl) ?_ _
          go_wp2_with fail
          refine bodyPost_ret (results_two rfl _ _ w.heap.size (w.heap.size + 1) 25 27 zeroTs #[.int .i64 c, .int .i64 i] (0, 0) (0, 0) _ _ rfl ?_ Tryz.underlying25 rfl sizeQ rfl ?_ Tryz.underlying27 rfl sizeF) rfl (twoT_fin HT2.out)
          · rw [setRow_other _ _ _ _ (by omega)]; exact setRow_heap _ _ _ _ _ _ HT2.out.g0
          · exact setRow_heap _ _ _ _ _ _ ((setRow_other _ _ _ _ (by omega)).trans HT2.out.g1)
theorem startT_long (A B : Option Addr) (L : List Rule) (m : List Int) (c' d' : Nat) (w : World) (hl : L.length ≤ maxLen) (h1 : Rls w A L) (hwf : ∀ r ∈ L, RuleWf r) (hf : faultR L = (0, 0)) (hm : 200 < m.length) (hm2 : m.length ≤ maxLen) :
    Calls Tryz.prog 5 #[.slice A L.length c', .slice B m.length d'] w (SRetT w (startGT L m)) := by
  have he : startGT L m = (ts0, (9, -2)) := by unfold startGT; rw [if_pos hf, if_pos hm]
  rw [he]
  have HC := Lib.hid (fun (W : World) (hx : Ext w W) => hf ▸ checkRules_c A L c' W hl (h1.ext hx) hwf)
  unfold maxLen at hm2
  clear he hf h1 hwf
  go_enter Tryz.func5, Tryz.ntmps5
  go_upto_region 0 with (fail)
  go_cut [4, 5] (fun s4 s5 wx => s4 = .pointer (some ⟨w.heap.size, 0, none⟩) ∧ s5 = .pointer (some ⟨w.heap.size + 1, 0, none⟩) ∧ TwoT w wx)
  case first =>
    go_wp2_with (refine wpList_allocQ rfl rfl ?_)
    go_meet
    exact ⟨rfl, rfl, twoT_mk w⟩
  case rest =>
    obtain ⟨rfl, rfl, htw⟩ := hcut
    have HT := Lib.hid htw
    clear htw
    go_wp2_with fail
    refine (HC.out wc HT.out.x).mono ?_
    rintro e w1 ⟨rfl, hx1⟩
    have HT1 := Lib.hid (HT.out.ext hx1)
    have hlt1 := HT1.out.lt
    clear hx1
    simp only [fAgg]
    have HT2 := Lib.hid (HT1.out.ext ((Ext.refl w1).alloc (.cells #[.int .i64 0, .int .i64 0] 27)))
    have HT3 := Lib.hid (HT2.out.ext ((Ext.refl _).alloc (.cells #[.int .i64 9, .int .i64 (-2)] 27)))
    have H30 := Lib.hid ((setRow_other ((w1.alloc (.cells #[.int .i64 0, .int .i64 0] 27)).alloc (.cells #[.int .i64 9, .int .i64 (-2)] 27)) w.heap.size (w.heap.size + 1) zeroTs (by omega)).trans HT3.out.g1)
    go_wp2_with (first | refine wpList_buildQ rfl rfl ?_ | (go_at_call 24; refine (tfault_c _ _ _).mono ?_; rintro e w' ⟨rfl, rfl⟩) | refine wpList_store_row rfl 25 _ _ rfl w.heap.size zeroTs rfl rfl 25 zeroTs HT3.out.g0 sizeQ rfl zeroT_one ?_ | refine wpList_store_row rfl 27 _ _ rfl (w.heap.size + 1) #[.int .i64 9, .int .i64 (-2)] rfl rfl 27 _ H30.out sizeF rfl (by kernel_rfl) ?_)
    refine bodyPost_ret (results_two rfl _ _ w.heap.size (w.heap.size + 1) 25 27 zeroTs #[.int .i64 9, .int .i64 (-2)] (0, 0) (0, 0) _ _ rfl ?_ Tryz.underlying25 rfl sizeQ rfl ?_ Tryz.underlying27 rfl sizeF) rfl (twoT_fin HT3.out)
    · rw [setRow_other _ _ _ _ (by omega)]; exact setRow_heap _ _ _ _ _ _ HT3.out.g0
    · exact setRow_heap _ _ _ _ _ _ H30.out
theorem startT_sym (A B : Option Addr) (L : List Rule) (m : List Int) (c' d' : Nat) (w : World) (hl : L.length ≤ maxLen) (h1 : Rls w A L) (hwf : ∀ r ∈ L, RuleWf r) (hf : faultR L = (0, 0)) (hm : m.length ≤ 200) (h2 : Sl w .i64 B m) (hb : badB m = true) :
    Calls Tryz.prog 5 #[.slice A L.length c', .slice B m.length d'] w (SRetT w (startGT L m)) := by
  have he : startGT L m = (ts0, (4, -2)) := by unfold startGT; rw [if_pos hf, if_neg (by omega), if_pos hb]
  rw [he]
  have HC := Lib.hid (fun (W : World) (hx : Ext w W) => hf ▸ checkRules_c A L c' W hl (h1.ext hx) hwf)
  have HBS := Lib.hid (fun (W : World) (x : Ext w W) => badSymbol_c B m d' W (by unfold maxLen; omega) (h2.ext x))
  rw [hb] at HBS
  clear he hf h1 hwf h2 hb
  go_enter Tryz.func5, Tryz.ntmps5
  go_upto_region 0 with (fail)
  go_cut [4, 5] (fun s4 s5 wx => s4 = .pointer (some ⟨w.heap.size, 0, none⟩) ∧ s5 = .pointer (some ⟨w.heap.size + 1, 0, none⟩) ∧ TwoT w wx)
  case first =>
    go_wp2_with (refine wpList_allocQ rfl rfl ?_)
    go_meet
    exact ⟨rfl, rfl, twoT_mk w⟩
  case rest =>
    obtain ⟨rfl, rfl, htw⟩ := hcut
    have HT := Lib.hid htw
    clear htw
    go_wp2_with fail
    refine (HC.out wc HT.out.x).mono ?_
    rintro e w1 ⟨rfl, hx1⟩
    have HT1 := Lib.hid (HT.out.ext hx1)
    have hlt1 := HT1.out.lt
    clear hx1
    simp only [fAgg]
    have HT2 := Lib.hid (HT1.out.ext ((Ext.refl w1).alloc (.cells #[.int .i64 0, .int .i64 0] 27)))
    have HT3 := Lib.hid (HT2.out.ext ((Ext.refl _).alloc (.cells #[.int .i64 4, .int .i64 (-2)] 27)))
    have H30 := Lib.hid ((setRow_other ((w1.alloc (.cells #[.int .i64 0, .int .i64 0] 27)).alloc (.cells #[.int .i64 4, .int .i64 (-2)] 27)) w.heap.size (w.heap.size + 1) zeroTs (by omega)).trans HT3.out.g1)
    go_wp2_with (first | (go_at_call 25; refine (HBS.out _ HT2.out.x).mono ?_; rintro e w' ⟨rfl, rfl⟩) | refine wpList_buildQ rfl rfl ?_ | (go_at_call 24; refine (tfault_c _ _ _).mono ?_; rintro e w' ⟨rfl, rfl⟩) | refine wpList_store_row rfl 25 _ _ rfl w.heap.size zeroTs rfl rfl 25 zeroTs HT3.out.g0 sizeQ rfl zeroT_one ?_ | refine wpList_store_row rfl 27 _ _ rfl (w.heap.size + 1) #[.int .i64 4, .int .i64 (-2)] rfl rfl 27 _ H30.out sizeF rfl (by kernel_rfl) ?_)
    refine bodyPost_ret (results_two rfl _ _ w.heap.size (w.heap.size + 1) 25 27 zeroTs #[.int .i64 4, .int .i64 (-2)] (0, 0) (0, 0) _ _ rfl ?_ Tryz.underlying25 rfl sizeQ rfl ?_ Tryz.underlying27 rfl sizeF) rfl (twoT_fin HT3.out)
    · rw [setRow_other _ _ _ _ (by omega)]; exact setRow_heap _ _ _ _ _ _ HT3.out.g0
    · exact setRow_heap _ _ _ _ _ _ H30.out
def zeroRow (n : Nat) : Array Value := (List.replicate n (Value.int .i64 0)).toArray
theorem make_runT (w : World) (n : Nat) (h : n ≤ 1000000) : (Instr.makeSlice 23 (.int .i64 (n : Int)) (.int .i64 (n : Int))).run Tryz.prog w = .ok (.slice (some ⟨w.heap.size, 0, none⟩) n n) (w.alloc (.cells (zeroRow n) 3)) := by
  obtain ⟨i0, hi, hz0, hz1, hz2⟩ := info_parts infoI
  have := run_make (P := Tryz.prog) w 23 3 i0 (.int .i64 0) Tryz.underlying23 hi hz0 .i64 .i64 n n (by omega) (by omega) (by rw [hz2]; omega) (by omega)
  rw [hz1] at this
  simp only [Int.toNat_natCast, Nat.mul_one] at this
  have hc : madeCells (Value.int .i64 0).cells n = zeroRow n := by
    apply Array.toList_inj.1
    exact toList_madeCells_one _ n
  rw [hc] at this
  exact this
def stC (A : Option Addr) (c : Nat) (L : List Rule) (m : List Int) (g : Nat) : Array Value := #[.slice A L.length c, .slice (some ⟨g, 0, none⟩) (tapeOf m).length (tapeOf m).length, .int .i64 0, .int .i64 0, .int .i64 0]
theorem run_build_ts (A B : Option Addr) (n c k d : Nat) (w : World) : (Instr.build 25 #[(0, .slice A n c), (1, .slice B k d)]).run Tryz.prog w = .ok (.agg #[.slice A n c, .slice B k d, .int .i64 0, .int .i64 0, .int .i64 0]) w := by kernel_rfl
theorem wpList_build_ts {w : World} {ops : Array Oper} {rest : List Oper} {o : Oper} {a : Act} {Q : Exit → Act → World → Prop} (hgd : o.guard = none) (x y : Operand) (ho : o.op = .build 25 #[(0, x), (1, y)]) (A : Option Addr) (n c : Nat) (B : Option Addr) (k d : Nat) (hx : a.eval x = .slice A n c) (hy : a.eval y = .slice B k d)
    (h : wpList Tryz.prog ops Q rest (a.put o.dst (.agg #[.slice A n c, .slice B k d, .int .i64 0, .int .i64 0, .int .i64 0])) w) : wpList Tryz.prog ops Q (o :: rest) a w := by
  refine wpList_plain hgd fun K hK => ?_
  unfold Oper.wp execOp
  simp only [ho, List.map_toArray, List.map_cons, List.map_nil, hx, hy, Sem.run_bind, run_build_ts, Sem.run_pure, Result.andThen_ok]
  exact hK _ _ h
theorem startT_fin {w W : World} {L : List Rule} {m : List Int} {A : Option Addr} {c g : Nat} (hT : TwoT w W) (h0 : W.ownsRow (w.heap.size + 2) 54 5 (.slice A L.length c) L.length (rulesV L)) (hg : W.heap[g]? = some (.cells ((tapeOf m).map (Value.int .i64)).toArray 3 (0, 0))) (hgl : w.heap.size + 2 ≤ g) (hr : ∀ r ∈ L, Tape.ruleB r = true) (hm : ∀ x ∈ m, 0 ≤ x ∧ x ≤ 3) (htl : (tapeOf m).length ≤ maxLen) :
    SRetT w ({ ts0 with rules := L, cells := tapeOf m }, (0, 0)) (.returned (.tuple #[.agg (stC A c L m g), .agg #[.int .i64 0, .int .i64 0]])) ((W.setRow w.heap.size (stC A c L m g)).setRow (w.heap.size + 1) #[.int .i64 0, .int .i64 0]) := by
  refine ⟨_, rfl, fun F hF => ?_, (hT.x.setRow (by omega) _).setRow (by omega) _⟩
  have hk : ∀ b, w.heap.size + 2 ≤ b → b < W.heap.size → F.heap[b]? = W.heap[b]? := by
    intro b hb hl
    rw [hF b (by omega) (by simpa using hl), setRow_other _ _ _ _ (by omega), setRow_other _ _ _ _ (by omega)]
  have o := own_keep (w' := F) h0 (fun b hb => hk b (own_lt h0 hb).1 (own_lt h0 hb).2)
  obtain ⟨A', c', hv, k2, k3, k4, k5⟩ := own_sl5 o
  injection hv with hv1 hv2 hv3
  subst hv1 hv3
  have hgF : F.heap[g]? = some (.cells ((tapeOf m).map (Value.int .i64)).toArray 3 (0, 0)) := by rw [hk g hgl (Array.getElem?_eq_some_iff.1 hg).1]; exact hg
  refine ⟨rfl, ⟨A, c, rfl, k2, k3, k4, k5⟩, ⟨some ⟨g, 0, none⟩, (tapeOf m).length, rfl, Nat.le_refl _, htl, (fun q => by cases q), ?_⟩, rfl, rfl, rfl, fun r hr' => fits_wf (rule_fits (hr r hr')), ?_, ts0_wf.at_, ts0_wf.state, ts0_wf.stop⟩
  · intro i u hu
    refine ⟨_, rfl, ?_⟩
    rw [add_off, Nat.zero_add, blk_cell hgF]
    simpa using hu
  · intro x hx
    have hx' : x ∈ tapeOf m := hx
    unfold tapeOf at hx'
    split at hx'
    · rw [List.mem_singleton.1 hx']; exact ⟨by decide, by decide⟩
    · have := hm x hx'; exact i64_small (by omega) (by omega)
theorem startT_good (A B : Option Addr) (L : List Rule) (m : List Int) (c' d' : Nat) (w : World) (hl : L.length ≤ maxLen) (h1 : Rls w A L) (hwf : ∀ r ∈ L, RuleWf r) (hA : A = none → c' = 0) (hf : faultR L = (0, 0)) (hm : m.length ≤ 200) (h2 : Sl w .i64 B m) (hb : badB m = false) :
    Calls Tryz.prog 5 #[.slice A L.length c', .slice B m.length d'] w (SRetT w (startGT L m)) := by
  have he : startGT L m = ({ ts0 with rules := L, cells := tapeOf m }, (0, 0)) := by unfold startGT; rw [if_pos hf, if_neg (by omega), if_neg (by rw [hb]; decide)]
  rw [he]
  have hr := rules_ok hf
  have HC := Lib.hid (fun (W : World) (hx : Ext w W) => hf ▸ checkRules_c A L c' W hl (h1.ext hx) hwf)
  have HBS := Lib.hid (fun (W : World) (x : Ext w W) => badSymbol_c B m d' W (by unfold maxLen; omega) (h2.ext x))
  rw [hb] at HBS
  have HCL := Lib.hid (fun (W : World) (x : Ext w W) => CloneR_c A L c' W (by omega) (h1.ext x) hA)
  have HM2 := Lib.hid h2
  have HSY := Lib.hid (sym_of hb)
  have HRO := Lib.hid hr
  have hrl := hr.1
  clear he hf h1 h2 hb hA hwf hr
  obtain ⟨n, hn⟩ : ∃ n, n = m.length := ⟨_, rfl⟩
  have HN := Lib.hid hn
  rw [← hn] at hm HBS ⊢
  clear hn hl
  go_enter Tryz.func5, Tryz.ntmps5
  go_upto_region 0 with (fail)
  go_cut [4, 5] (fun s4 s5 wx => s4 = .pointer (some ⟨w.heap.size, 0, none⟩) ∧ s5 = .pointer (some ⟨w.heap.size + 1, 0, none⟩) ∧ TwoT w wx)
  case first =>
    go_wp2_with (refine wpList_allocQ rfl rfl ?_)
    go_meet
    exact ⟨rfl, rfl, twoT_mk w⟩
  case rest =>
    obtain ⟨rfl, rfl, htw⟩ := hcut
    have HT := Lib.hid htw
    clear htw
    go_wp2_with fail
    refine (HC.out wc HT.out.x).mono ?_
    rintro e w1 ⟨rfl, hx1⟩
    have HT2 := Lib.hid ((HT.out.ext hx1).ext ((Ext.refl w1).alloc (.cells #[.int .i64 0, .int .i64 0] 27)))
    clear hx1
    simp only [fAgg]
    go_upto_region 8 with (go_at_call 25; refine (HBS.out _ HT2.out.x).mono ?_; rintro e w' ⟨rfl, rfl⟩)
    obtain ⟨wa, hwa⟩ : ∃ wa : World, wa = w1.alloc (.cells #[.int .i64 0, .int .i64 0] 27) := ⟨_, rfl⟩
    rw [← hwa] at HT2 ⊢
    clear hwa
    go_cut [7] (fun s7 wx => ∃ k, s7 = .slice (some ⟨wa.heap.size, 0, none⟩) k k ∧ Hid (k = if n = 0 then 1 else n) ∧ wx = wa.alloc (.cells (zeroRow k) 3))
    case first =>
      obtain ⟨k, hk⟩ : ∃ k : Nat, k = if n = 0 then 1 else n := ⟨_, rfl⟩
      have hmx : max (n : Int) 1 = (k : Int) := by
        rw [Int.max_def, hk]
        by_cases q : n = 0
        · rw [if_pos q, q]; decide
        · rw [if_neg q]; split <;> omega
      have hk2 : k ≤ 200 := by rw [hk]; split <;> omega
      have hmk := make_runT wa k (by omega)
      have HK := Lib.hid hk
      clear hk
      go_wp2_with fail
      go_meet
      exact ⟨k, rfl, HK, rfl⟩
    obtain ⟨k, rfl, hk, rfl⟩ := hcut
    have HK := Lib.hid hk.out
    clear hk
    have hg : (wa.alloc (.cells (zeroRow k) 3)).heap[wa.heap.size]? = some (.cells (List.replicate k (Value.int .i64 0)).toArray 3 (0, 0)) := heap_alloc_new wa _
    obtain ⟨wb, hwb⟩ : ∃ wb : World, wb = wa.alloc (.cells (zeroRow k) 3) := ⟨_, rfl⟩
    rw [← hwb] at hg ⊢
    have HT3 : Hid (TwoT w wb) := Lib.hid (by rw [hwb]; exact HT2.out.ext ((Ext.refl wa).alloc _))
    have hlt := HT2.out.lt
    have hltb : wa.heap.size < wb.heap.size := (Array.getElem?_eq_some_iff.1 hg).1
    clear hwb
    have hnk : n ≤ k := by rw [HK.out]; split <;> omega
    have hk200 : k ≤ 200 := by rw [HK.out]; split <;> omega
    have HG := Lib.hid hg
    have HS1 := Lib.hid (HM2.out.ext HT3.out.x)
    have HIS : Hid ((Tryz.prog.info? 3).map (·.size) = some 1) := Lib.hid (by obtain ⟨i, hi, _, h2, _⟩ := info_parts infoI; rw [hi]; simp [h2])
    go_upto_region 9 with (fail)
    go_cut [] (fun wx => wx.heap[wa.heap.size]? = some (.cells ((tapeOf m).map (Value.int .i64)).toArray 3 (0, 0)) ∧ Below wa.heap.size wb wx)
    case first =>
      have HPOS : Hid (0 < (m.map (Value.int .i64)).length → (some (⟨wa.heap.size, 0, none⟩ : Addr)) = some ⟨wa.heap.size, 0, none⟩ ∧ ∃ ad, B = some ad ∧ ∀ (j : Nat) v, (m.map (Value.int .i64))[j]? = some v → wb.cell? (ad.add j) = some v) := Lib.hid (by
        intro hpos
        refine ⟨rfl, ?_⟩
        have hl0 : 0 < m.length := by simpa using hpos
        obtain ⟨b, o, hA2, _⟩ := HS1.out.at_ hl0
        refine ⟨_, hA2, fun j v hv => ?_⟩
        obtain ⟨a, ha, hc⟩ := HS1.out j v hv
        rw [hA2] at ha
        cases ha
        exact hc)
      have HFIT : Hid (0 + (m.map (Value.int .i64)).length ≤ (List.replicate k (Value.int .i64 0)).length) := Lib.hid (by rw [List.length_map, List.length_replicate, ← HN.out]; omega)
      have HMIN : Hid ((m.map (Value.int .i64)).length = Nat.min n k) := Lib.hid (by rw [List.length_map, ← HN.out]; exact (Nat.min_eq_left hnk).symm)
      go_wp2_with (with_reducible refine wpList_copy_splice rfl (.tmp 28) (.tmp 29) 23 23 rfl 3 Tryz.underlying23 HIS.out (some ⟨wa.heap.size, 0, none⟩) B k k n d' rfl rfl wa.heap.size 0 (List.replicate k (Value.int .i64 0)) 3 HG.out (m.map (Value.int .i64)) HMIN.out HPOS.out HFIT.out ints_one wa.heap.size wb (Below.refl _ _) (Nat.le_refl _) ?_)
      intro w9 hg9 hb9
      have HB9 := Lib.hid hb9
      have HG9 : Hid (w9.heap[wa.heap.size]? = some (.cells ((tapeOf m).map (Value.int .i64)).toArray 3 (0, 0))) := Lib.hid (by
        have e : splice (List.replicate k (Value.int .i64 0)) 0 (m.map (Value.int .i64)) = (tapeOf m).map (Value.int .i64) := by
          unfold splice tapeOf
          rw [List.take_zero, List.nil_append, Nat.zero_add, List.length_map, List.drop_replicate, HK.out, ← HN.out]
          by_cases q : n = 0
          · have : m = [] := List.eq_nil_of_length_eq_zero (by rw [← HN.out]; exact q)
            rw [if_pos q, this, q]; rfl
          · have : m ≠ [] := fun e => q (by rw [HN.out, e]; rfl)
            rw [if_neg q, if_neg this, Nat.sub_self]
            simp
        rw [← e]; exact hg9.out)
      clear hg9 hb9
      go_wp2_with fail
      go_meet
      exact ⟨HG9.out, HB9.out⟩
    obtain ⟨hg2, hb2⟩ := hcut
    obtain ⟨wd, rfl⟩ : ∃ wd : World, wd = wc := ⟨_, rfl⟩
    have HG2 := Lib.hid hg2
    have HTD : Hid (TwoT w wd) := Lib.hid ⟨(hb2.block _ (by omega)).trans HT3.out.g0, (hb2.block _ (by omega)).trans HT3.out.g1, Below.trans HT3.out.x (Below.mono hb2 (by omega))⟩
    have hltd : wa.heap.size < wd.heap.size := (Array.getElem?_eq_some_iff.1 hg2).1
    have HKT : Hid (k = (tapeOf m).length) := Lib.hid (by
      rw [HK.out]
      unfold tapeOf
      by_cases q : n = 0
      · have : m = [] := List.eq_nil_of_length_eq_zero (by rw [← HN.out]; exact q)
        rw [if_pos q, if_pos this]; rfl
      · have : m ≠ [] := fun e => q (by rw [HN.out, e]; rfl)
        rw [if_neg q, if_neg this, HN.out])
    clear hg hg2 hb2
    go_wp2_with fail
    refine (HCL.out _ HTD.out.x).mono ?_
    rintro e w2 ⟨v, rfl, ho, hx2⟩
    obtain ⟨A2, c2, rfl, -⟩ := own_sl5 ho
    have HT5 := Lib.hid (HTD.out.ext hx2)
    have HF := Lib.hid (startT_fin HT5.out (town_base ho (base' := w.heap.size + 2) (by omega)) (ext_heap hx2 HG2.out) (by omega) HRO.out.2 HSY.out (by rw [← HKT.out]; unfold maxLen; omega))
    have H31 := Lib.hid ((setRow_other w2 w.heap.size (w.heap.size + 1) (stC A2 c2 L m wa.heap.size) (by omega)).trans HT5.out.g1)
    obtain ⟨nL, hnL⟩ : ∃ nL, nL = L.length := ⟨_, rfl⟩
    have HSC : Hid (stC A2 c2 L m wa.heap.size = #[.slice A2 nL c2, .slice (some ⟨wa.heap.size, 0, none⟩) k k, .int .i64 0, .int .i64 0, .int .i64 0]) := Lib.hid (by unfold stC; rw [← HKT.out, hnL])
    rw [HSC.out] at HF H31
    rw [← hnL]
    clear ho hx2 hnL
    go_wp2_with (first | refine wpList_build_ts rfl _ _ rfl A2 nL c2 (some ⟨wa.heap.size, 0, none⟩) k k rfl rfl ?_ | refine wpList_store_row rfl 25 _ _ rfl w.heap.size #[.slice A2 nL c2, .slice (some ⟨wa.heap.size, 0, none⟩) k k, .int .i64 0, .int .i64 0, .int .i64 0] rfl rfl 25 zeroTs HT5.out.g0 sizeQ rfl (by kernel_rfl) ?_ | refine wpList_store_row rfl 27 _ _ rfl (w.heap.size + 1) #[.int .i64 0, .int .i64 0] rfl rfl 27 _ H31.out sizeF rfl (by kernel_rfl) ?_)
    refine bodyPost_ret (results_two rfl _ _ w.heap.size (w.heap.size + 1) 25 27 #[.slice A2 nL c2, .slice (some ⟨wa.heap.size, 0, none⟩) k k, .int .i64 0, .int .i64 0, .int .i64 0] #[.int .i64 0, .int .i64 0] (0, 0) (0, 0) _ _ rfl ?_ Tryz.underlying25 rfl sizeQ rfl ?_ Tryz.underlying27 rfl sizeF) rfl HF.out
    · rw [setRow_other _ _ _ _ (by omega)]; exact setRow_heap _ _ _ _ _ _ HT5.out.g0
    · exact setRow_heap _ _ _ _ _ _ H31.out
theorem startT_all (A B : Option Addr) (L : List Rule) (m : List Int) (c' d' : Nat) (w : World) (hl : L.length ≤ maxLen) (h1 : Rls w A L) (hwf : ∀ r ∈ L, RuleWf r) (hm2 : m.length ≤ maxLen) (hA : A = none → c' = 0) (h2 : Sl w .i64 B m) :
    Calls Tryz.prog 5 #[.slice A L.length c', .slice B m.length d'] w (SRetT w (startGT L m)) := by
  by_cases hf : faultR L = (0, 0)
  · by_cases hm : 200 < m.length
    · exact startT_long A B L m c' d' w hl h1 hwf hf hm hm2
    · cases hb : badB m with
      | true => exact startT_sym A B L m c' d' w hl h1 hwf hf (by omega) h2 hb
      | false => exact startT_good A B L m c' d' w hl h1 hwf hA hf (by omega) h2 hb
  · exact startT_bad A B L m c' d' w hl h1 hwf hf
end Go.Proofs.YtbaahbpianingaaGreatDoor
