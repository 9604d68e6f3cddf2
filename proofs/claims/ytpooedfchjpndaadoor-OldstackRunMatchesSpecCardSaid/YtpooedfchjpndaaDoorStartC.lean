import Derived.Test.YtpooedfchjpndaaDoorStep3
namespace Go.Proofs.YtpooedfchjpndaaDoor
open Go Go.Proofs Go.RowKit
set_option maxHeartbeats 3200000
set_option maxRecDepth 100000
def startG (l m : List Int) : St × (Int × Int) :=
  if 256 < l.length then (st0, (3, -1)) else if 1000 < m.length then (st0, (3, -2)) else ({ st0 with image := l, input := m }, (0, 0))
theorem run_build_start (A B : Option Addr) (n m c d : Nat) (w : World) : (Instr.build 28 #[(0, .slice A n c), (5, .slice B m d)]).run Tryd.prog w = .ok (.agg ((zeroSt.setIfInBounds 0 (.slice A n c)).setIfInBounds 36 (.slice B m d))) w := by kernel_rfl
theorem wpList_build_start {w : World} {ops : Array Oper} {rest : List Oper} {o : Oper} {a : Act} {Q : Exit → Act → World → Prop} (hgd : o.guard = none) (x y : Operand) (ho : o.op = .build 28 #[(0, x), (5, y)]) (A B : Option Addr) (n m c d : Nat) (hx : a.eval x = .slice A n c) (hy : a.eval y = .slice B m d)
    (h : wpList Tryd.prog ops Q rest (a.put o.dst (.agg ((zeroSt.setIfInBounds 0 (.slice A n c)).setIfInBounds 36 (.slice B m d)))) w) : wpList Tryd.prog ops Q (o :: rest) a w := by
  refine wpList_plain hgd fun K hK => ?_
  unfold Oper.wp execOp
  simp only [ho, List.map_toArray, List.map_cons, List.map_nil, hx, hy, Sem.run_bind, run_build_start, Sem.run_pure, Result.andThen_ok]
  exact hK _ _ h
/-- The two blocks of the results. -/
structure Two (w wx : World) : Prop where
  g0 : wx.heap[w.heap.size]? = some (.cells zeroSt 28 (0, 0))
  g1 : wx.heap[w.heap.size + 1]? = some (.cells #[.int .i64 0, .int .i64 0] 30 (0, 0))
  x : Ext w wx
theorem Two.ext {w wx w1 : World} (h : Two w wx) (e : Ext wx w1) : Two w w1 := ⟨ext_heap e h.g0, ext_heap e h.g1, h.x.trans e⟩
theorem Two.lt {w wx : World} (h : Two w wx) : w.heap.size + 1 < wx.heap.size := (Array.getElem?_eq_some_iff.1 h.g1).1
theorem two_mk (w : World) : Two w ((w.alloc (.cells zeroSt 28)).alloc (.cells #[.int .i64 0, .int .i64 0] 30)) :=
  ⟨heap_alloc2_old w _ _, heap_alloc2_new w _ _, ((Ext.refl w).alloc _).alloc _⟩
theorem two_fin {w W : World} {c i : Int} (h : Two w W) : SRet w (st0, (c, i)) (.returned (.tuple #[.agg zeroSt, .agg #[.int .i64 c, .int .i64 i]])) ((W.setRow w.heap.size zeroSt).setRow (w.heap.size + 1) #[.int .i64 c, .int .i64 i]) :=
  ⟨zeroSt, rfl, fun F _ => zero_is F, (h.x.setRow (by omega) _).setRow (by omega) _⟩
theorem own_at {w F : World} {B : Nat} {e : TypeId} {k : IntKind} {v : Value} {l : List Int} (hw : w.ownsRow B e 1 v l.length (l.map (Value.int k))) (hk : ∀ g, B ≤ g → g < w.heap.size → F.heap[g]? = w.heap[g]?) : SlAt F k (some v) l := by
  obtain ⟨A, c, hv, h2, h3, h4, h5⟩ := own_sl (own_keep (w' := F) hw fun g hg => hk g (own_lt hw hg).1 (own_lt hw hg).2)
  exact ⟨A, c, by rw [hv], h2, h3, h4, h5⟩
theorem start_is {F : World} {l m : List Int} {v u : Value} (hl : Byt l) (hm : Byt m) (h1 : SlAt F .u8 (some v) l) (h2 : SlAt F .u8 (some u) m) : StIs F ((zeroSt.setIfInBounds 0 v).setIfInBounds 36 u) { st0 with image := l, input := m } := by
  have z := zero_is F
  have hs : zeroSt.size = 39 := z.size
  have key : ∀ i, i ≠ 0 → i ≠ 36 → ((zeroSt.setIfInBounds 0 v).setIfInBounds 36 u)[i]? = zeroSt[i]? := fun i h0 h36 => by
    rw [Array.getElem?_setIfInBounds_ne (by omega), Array.getElem?_setIfInBounds_ne (by omega)]
  refine ⟨by simp [hs], ?_, ?_, ?_, ?_, ?_, ?_, ?_, ?_, ⟨hl, z.wf.at_, z.wf.data, z.wf.ret, z.wf.mem, z.wf.memlen, hm, z.wf.output, z.wf.stop⟩⟩
  · rw [Array.getElem?_setIfInBounds_ne (by omega), Array.getElem?_setIfInBounds_self_of_lt (by omega)]; exact h1
  · rw [key 1 (by omega) (by omega)]; exact z.at_
  · rw [key 2 (by omega) (by omega)]; exact z.data
  · rw [key 3 (by omega) (by omega)]; exact z.ret
  · intro i hi
    rw [key (4 + i) (by omega) (by omega)]; exact z.mem i hi
  · rw [Array.getElem?_setIfInBounds_self_of_lt (by simp [hs])]; exact h2
  · rw [key 37 (by omega) (by omega)]; exact z.output
  · rw [key 38 (by omega) (by omega)]; exact z.stop
theorem start_fin {w wc w2 w3 : World} {l m : List Int} {v u : Value} (hl : Byt l) (hm : Byt m) (ht : Two w wc) (x2 : Ext wc w2) (x3 : Ext w2 w3) (o1 : w2.ownsRow wc.heap.size 5 1 v l.length (l.map (Value.int .u8))) (o2 : w3.ownsRow w2.heap.size 5 1 u m.length (m.map (Value.int .u8))) :
    SRet w ({ st0 with image := l, input := m }, (0, 0)) (.returned (.tuple #[.agg ((zeroSt.setIfInBounds 0 v).setIfInBounds 36 u), .agg #[.int .i64 0, .int .i64 0]])) ((w3.setRow w.heap.size ((zeroSt.setIfInBounds 0 v).setIfInBounds 36 u)).setRow (w.heap.size + 1) #[.int .i64 0, .int .i64 0]) := by
  refine ⟨_, rfl, fun F hF => ?_, ((ht.x.trans (x2.trans x3)).setRow (by omega) _).setRow (by omega) _⟩
  have hlt := ht.lt
  have h2 := x2.size
  have hk : ∀ g, wc.heap.size ≤ g → g < w3.heap.size → F.heap[g]? = w3.heap[g]? := fun g hg hl => by
    rw [hF g (by omega) (by simpa using hl), setRow_other _ _ _ _ (by omega), setRow_other _ _ _ _ (by omega)]
  exact start_is hl hm (own_at (own_ext o1 x3) hk) (own_at o2 fun g hg => hk g (by omega))
theorem slice_one (A : Option Addr) (n c : Nat) : (Value.slice A n c).oneCell' = true := rfl
theorem start_one (A B : Option Addr) (n m c d : Nat) : ((zeroSt.setIfInBounds 0 (.slice A n c)).setIfInBounds 36 (.slice B m d)).all (·.oneCell') = true := by kernel_rfl
theorem start_size (A B : Option Addr) (n m c d : Nat) : (Tryd.prog.info? 28).map (·.size) = some ((zeroSt.setIfInBounds 0 (.slice A n c)).setIfInBounds 36 (.slice B m d)).size := by kernel_rfl
theorem start_sz (A B : Option Addr) (n m c d : Nat) : zeroSt.size = ((zeroSt.setIfInBounds 0 (.slice A n c)).setIfInBounds 36 (.slice B m d)).size := by kernel_rfl
theorem start_go (A B : Option Addr) (l m : List Int) (c d : Nat) (w : World) (hl : l.length ≤ maxLen) (hm : m.length ≤ maxLen) (bl : Byt l) (bm : Byt m) (h1 : Sl w .u8 A l) (h2 : Sl w .u8 B m) (hA : A = none → c = 0) (hB : B = none → d = 0) :
    Calls Tryd.prog 7 #[.slice A l.length c, .slice B m.length d] w (SRet w (startG l m)) := by
  obtain ⟨r, hr⟩ : ∃ r, startG l m = r := ⟨_, rfl⟩
  have HR := Lib.hid hr
  unfold maxLen at hl hm
  rw [hr]
  clear hr
  go_enter Tryd.func7, Tryd.ntmps7
  go_upto_region 0 with (fail)
  go_cut [4, 5] (fun s4 s5 wx => s4 = .pointer (some ⟨w.heap.size, 0, none⟩) ∧ s5 = .pointer (some ⟨w.heap.size + 1, 0, none⟩) ∧ Two w wx)
  case first =>
    go_wp2_with fail
    go_meet
    exact ⟨rfl, rfl, zeroSt_lit ▸ two_mk w⟩
  case rest =>
    obtain ⟨rfl, rfl, htw⟩ := hcut
    have HT := Lib.hid htw
    clear htw
    by_cases c1 : 256 < l.length
    · have hr2 : r = (st0, (3, -1)) := by rw [← HR.out]; unfold startG; rw [if_pos c1]
      subst hr2
      clear HR
      have HT2 := Lib.hid (HT.out.ext ((Ext.refl wc).alloc (.cells #[.int .i64 3, .int .i64 (-1)] 30)))
      have H30 := Lib.hid ((setRow_other (wc.alloc (.cells #[.int .i64 3, .int .i64 (-1)] 30)) w.heap.size (w.heap.size + 1) zeroSt (by omega)).trans HT2.out.g1)
      go_wp2_with (first | refine wpList_build28 rfl rfl ?_ | (go_at_call 19; refine (fault_c _ _ _).mono ?_; rintro e w' ⟨rfl, rfl⟩) | refine wpList_store_row rfl 28 _ _ rfl w.heap.size zeroSt rfl rfl 28 zeroSt HT2.out.g0 size28 rfl zero_one ?_ | refine wpList_store_row rfl 30 _ _ rfl (w.heap.size + 1) #[.int .i64 3, .int .i64 (-1)] rfl rfl 30 _ H30.out size30 rfl (by kernel_rfl) ?_)
      refine bodyPost_ret (results_two rfl _ _ w.heap.size (w.heap.size + 1) 28 30 zeroSt #[.int .i64 3, .int .i64 (-1)] (0, 0) (0, 0) _ _ rfl ?_ Tryd.underlying28 rfl size28 rfl ?_ Tryd.underlying30 rfl size30) rfl (two_fin HT2.out)
      · rw [setRow_other _ _ _ _ (by omega)]; exact setRow_heap _ _ _ _ _ _ HT2.out.g0
      · exact setRow_heap _ _ _ _ _ _ H30.out
    · by_cases c2 : 1000 < m.length
      · have hr2 : r = (st0, (3, -2)) := by rw [← HR.out]; unfold startG; rw [if_neg c1, if_pos c2]
        subst hr2
        clear HR
        have HT2 := Lib.hid (HT.out.ext ((Ext.refl wc).alloc (.cells #[.int .i64 3, .int .i64 (-2)] 30)))
        have H30 := Lib.hid ((setRow_other (wc.alloc (.cells #[.int .i64 3, .int .i64 (-2)] 30)) w.heap.size (w.heap.size + 1) zeroSt (by omega)).trans HT2.out.g1)
        go_wp2_with (first | refine wpList_build28 rfl rfl ?_ | (go_at_call 19; refine (fault_c _ _ _).mono ?_; rintro e w' ⟨rfl, rfl⟩) | refine wpList_store_row rfl 28 _ _ rfl w.heap.size zeroSt rfl rfl 28 zeroSt HT2.out.g0 size28 rfl zero_one ?_ | refine wpList_store_row rfl 30 _ _ rfl (w.heap.size + 1) #[.int .i64 3, .int .i64 (-2)] rfl rfl 30 _ H30.out size30 rfl (by kernel_rfl) ?_)
        refine bodyPost_ret (results_two rfl _ _ w.heap.size (w.heap.size + 1) 28 30 zeroSt #[.int .i64 3, .int .i64 (-2)] (0, 0) (0, 0) _ _ rfl ?_ Tryd.underlying28 rfl size28 rfl ?_ Tryd.underlying30 rfl size30) rfl (two_fin HT2.out)
        · rw [setRow_other _ _ _ _ (by omega)]; exact setRow_heap _ _ _ _ _ _ HT2.out.g0
        · exact setRow_heap _ _ _ _ _ _ H30.out
      · have hr2 : r = ({ st0 with image := l, input := m }, (0, 0)) := by rw [← HR.out]; unfold startG; rw [if_neg c1, if_neg c2]
        subst hr2
        clear HR
        have HC1 := Lib.hid (Clone8_c A l c wc (by omega) (h1.ext HT.out.x) hA)
        go_upto_region 5 with (fail)
        go_wp2_with fail
        refine HC1.out.mono ?_
        rintro e w2 ⟨v, rfl, o1, x2⟩
        obtain ⟨A', c', rfl, _, _, _, _⟩ := own_sl o1
        go_wp2_with fail
        refine (Clone8_c B m d w2 (by omega) (h2.ext (HT.out.x.trans x2)) hB).mono ?_
        rintro e w3 ⟨u, rfl, o2, x3⟩
        obtain ⟨B', d', rfl, _, _, _, _⟩ := own_sl o2
        have HF := Lib.hid (start_fin bl bm HT.out x2 x3 o1 o2)
        have HT3 := Lib.hid (HT.out.ext (x2.trans x3))
        clear o1 o2 x2 x3
        have H30 := Lib.hid ((setRow_other w3 w.heap.size (w.heap.size + 1) ((zeroSt.setIfInBounds 0 (.slice A' l.length c')).setIfInBounds 36 (.slice B' m.length d')) (by omega)).trans HT3.out.g1)
        go_wp2_with (first | refine wpList_build_start rfl _ _ rfl A' B' l.length m.length c' d' rfl rfl ?_ | refine wpList_store_row rfl 28 _ _ rfl w.heap.size ((zeroSt.setIfInBounds 0 (.slice A' l.length c')).setIfInBounds 36 (.slice B' m.length d')) rfl rfl 28 zeroSt HT3.out.g0 (start_size ..) (start_sz ..) (start_one ..) ?_ | refine wpList_store_row rfl 30 _ _ rfl (w.heap.size + 1) #[.int .i64 0, .int .i64 0] rfl rfl 30 _ H30.out size30 rfl (by kernel_rfl) ?_)
        refine bodyPost_ret (results_two rfl _ _ w.heap.size (w.heap.size + 1) 28 30 ((zeroSt.setIfInBounds 0 (.slice A' l.length c')).setIfInBounds 36 (.slice B' m.length d')) #[.int .i64 0, .int .i64 0] (0, 0) (0, 0) _ _ rfl ?_ Tryd.underlying28 rfl (start_size ..) rfl ?_ Tryd.underlying30 rfl size30) rfl HF.out
        · rw [setRow_other _ _ _ _ (by omega)]; exact setRow_heap _ _ _ _ _ _ HT3.out.g0
        · exact setRow_heap _ _ _ _ _ _ H30.out
end Go.Proofs.YtpooedfchjpndaaDoor
