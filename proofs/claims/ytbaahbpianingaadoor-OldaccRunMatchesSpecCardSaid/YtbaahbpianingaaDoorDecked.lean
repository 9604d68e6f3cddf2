import Derived.Test.YtbaahbpianingaaDoorEx
import Derived.Deep.DeepCutAuto
namespace Go.Proofs.YtbaahbpianingaaDoor
open Go Go.Proofs Go.RowKit
open Acc (Dk red five)
set_option maxHeartbeats 3200000
set_option maxRecDepth 100000
/-- A variable of the state's type. -/
structure Var (w : World) (g : Nat) (cs : Array Value) (s : Dk) : Prop where
  g : w.heap[g]? = some (.cells cs 25 (0, 0))
  st : DkIs w cs s
theorem Var.ext {w w' : World} {g : Nat} {cs : Array Value} {s : Dk} (h : Var w g cs s) (x : Ext w w') : Var w' g cs s := ⟨ext_heap x h.g, h.st.ext x⟩
def asgW (w1 : World) (cs' : Array Value) (c i : Int) : World := ((((w1.alloc (.cells zeroDk 25)).alloc (.cells #[.int .i64 0, .int .i64 0] 28)).setRow w1.heap.size cs').setRow (w1.heap.size + 1) #[.int .i64 c, .int .i64 i])
structure Asg (w1 W : World) (cs' : Array Value) (s : Dk) (c i : Int) : Prop where
  v : Var W w1.heap.size cs' s
  f : W.heap[w1.heap.size + 1]? = some (.cells #[.int .i64 c, .int .i64 i] 28 (0, 0))
  x : Ext w1 W
theorem asg_mk (w1 : World) {cs' : Array Value} {s : Dk} (h : DkIs w1 cs' s) (c i : Int) : Asg w1 (asgW w1 cs' c i) cs' s c i := by
  have hx : Ext w1 (asgW w1 cs' c i) := (((((Ext.refl w1).alloc _).alloc _).setRow (Nat.le_refl _) _).setRow (by omega) _)
  have hh := step_heap w1 cs' c i (.cells #[.int .i64 0, .int .i64 0] 28)
  exact ⟨⟨hh.1, h.ext hx⟩, hh.2, hx⟩
theorem sl_block {w : World} {g : Nat} {cs : Array Value} {t : TypeId} {fr : Nat × Nat} {k : IntKind} {l : List Int} (h : w.heap[g]? = some (.cells cs t fr)) (hl : cs.toList = l.map (Value.int k)) : Sl w k (some ⟨g, 0, none⟩) l := by
  intro i u hu
  refine ⟨_, rfl, ?_⟩
  have : (Addr.add ⟨g, 0, none⟩ i) = ⟨g, i, none⟩ := by
    by_cases h0 : i = 0
    · subst h0; simp [Addr.add]
    · simp [Addr.add, h0]
  rw [this, cell_of_row w g i cs t fr h, ← Array.getElem?_toList, hl]
  exact hu
theorem wpList_load_rowg {P : Program} {ops : Array Oper} {rest : List Oper} {o : Oper} {a : Act} {w : World} {Q : Exit → Act → World → Prop} (hw : Region.wanted o (yielded ops a.tmps) = true) (ty : TypeId) (x : Operand) (ho : o.op = .load ty x)
    (g : Nat) (hx : a.eval x = .pointer (some ⟨g, 0, none⟩)) (t : TypeId) (cs : Array Value) (fr : Nat × Nat) (d : TypeDesc) (hg : w.heap[g]? = some (.cells cs t fr))
    (hu : P.underlying ty = some d) (hd : (match d with | .struct _ | .array _ _ => true | _ => false) = true) (hi : (P.info? ty).map (·.size) = some cs.size)
    (h : wpList P ops Q rest (a.put o.dst (.agg cs)) w) : wpList P ops Q (o :: rest) a w := by
  refine wpList_step fun K hK => ?_
  rw [if_pos hw]
  exact wp_load_row ty x ho g hx t cs fr d hg hu hd hi (hK _ _ h)
theorem fld0 (c i : Int) (w : World) : (Instr.field 28 (.agg #[.int .i64 c, .int .i64 i]) 0).run Tryd.prog w = .ok (.int .i64 c) w := by kernel_rfl
theorem ex_nums : (⟨#[48, 49, 32, 45, 48, 48, 48, 49, 50, 10]⟩ : ByteArray) = strOfNums exC := by rfl
theorem byt_exC : Byt exC := by intro x hx; unfold exC at hx; simp at hx; omega
theorem decked_c (w : World) (ht : Tabs w) (h8 : 2 ≤ w.heap.size) : Calls Tryd.prog 19 #[] w (BRet w true) := by
  have HT := Lib.hid ht
  clear ht
  go_enter Tryd.func19, Tryd.ntmps19
  go_upto_region 1 with (fail)
  go_cut [1, 2] (fun s1 s2 wx => ∃ g cs, s1 = .pointer (some ⟨g, 0, none⟩) ∧ s2 = .pointer (some ⟨g + 1, 0, none⟩) ∧ Var wx g cs exS ∧ wx.heap[g + 1]? = some (.cells #[.int .i64 0, .int .i64 0] 28 (0, 0)) ∧ Ext w wx)
  case first =>
    go_wp2_with fail
    have HX0 := Lib.hid ((Ext.refl w).alloc (.cells #[.int .i64 104, .int .i64 503, .int .i64 1400, .int .i64 7, .int .i64 250] 3))
    have HS := Lib.hid (start_all (some ⟨w.heap.size, 0, none⟩) none exW [] 5 0 (w.alloc (.cells #[.int .i64 104, .int .i64 503, .int .i64 1400, .int .i64 7, .int .i64 250] 3)) (by decide) (by decide) (sl_block (heap_alloc_new w _) rfl) (fun h => by cases h) byt_nil (SlC.nil _ _) (fun _ => rfl))
    refine HS.out.mono ?_
    rw [ex_start]
    rintro e w1 ⟨cs', rfl, hst, hx1⟩
    have HA := Lib.hid (asg_mk w1 hst.st 0 0)
    have HS2 := Lib.hid hst.st.size
    have HO := Lib.hid (dk_one hst.st)
    have HX1 := Lib.hid hx1
    have HZ := Lib.hid (heap_alloc2_old w1 (.cells zeroDk 25) (.cells #[.int .i64 0, .int .i64 0] 28))
    have HF := Lib.hid ((setRow_other _ w1.heap.size (w1.heap.size + 1) cs' (by omega)).trans (heap_alloc2_new w1 (.cells zeroDk 25) (.cells #[.int .i64 0, .int .i64 0] 28)))
    clear hst hx1
    simp only [fAgg]
    go_wp2_with (first | refine wpList_allocS rfl rfl ?_ | refine wpList_store_row rfl 25 _ _ rfl w1.heap.size cs' rfl rfl 25 zeroDk HZ.out (by rw [HS2.out]; exact sizeS) (by rw [HS2.out]; rfl) HO.out ?_ | refine wpList_store_row rfl 28 _ _ rfl (w1.heap.size + 1) #[.int .i64 0, .int .i64 0] rfl rfl 28 _ HF.out sizeF rfl (by kernel_rfl) ?_)
    go_meet
    exact ⟨_, cs', rfl, rfl, HA.out.v, HA.out.f, HX0.out.trans (HX1.out.trans HA.out.x)⟩
  case rest =>
    obtain ⟨g, cs, rfl, rfl, hv, hf, hx⟩ := hcut
    obtain ⟨wa, rfl⟩ : ∃ wa : World, wa = wc := ⟨_, rfl⟩
    have HV := Lib.hid hv
    have HF1 := Lib.hid hf
    have HX := Lib.hid hx
    have HS := Lib.hid hv.st.size
    clear hv hf hx
    go_upto_region 2 with (fail)
    go_cut [3, 4, 5] (fun s3 s4 s5 wx => ∃ g3 cs3, s3 = .pointer (some ⟨g3, 0, none⟩) ∧ s4 = .int .i64 4 ∧ s5 = .pointer (some ⟨g3 + 1, 0, none⟩) ∧ Var wx g3 cs3 ex4 ∧ wx.heap[g3 + 1]? = some (.cells #[.int .i64 0, .int .i64 0] 28 (0, 0)) ∧ Ext wa wx)
    case first =>
      have HR := Lib.hid (run_all cs exS 9 wa HV.out.st (HT.out.below HX.out h8) (Nat.le_trans h8 HX.out.size))
      go_wp2_with (refine wpList_load_row rfl 25 _ rfl g rfl 25 cs (0, 0) _ HV.out.g Tryd.underlying25 rfl (by rw [HS.out]; exact sizeS) ?_)
      refine HR.out.mono ?_
      rw [ex_run9]
      rintro e w1 ⟨cs', rfl, hst, hx1⟩
      have HA := Lib.hid (asg_mk w1 hst.st 0 0)
      have HS2 := Lib.hid hst.st.size
      have HO := Lib.hid (dk_one hst.st)
      have HX1 := Lib.hid hx1
      have HZ := Lib.hid (heap_alloc2_old w1 (.cells zeroDk 25) (.cells #[.int .i64 0, .int .i64 0] 28))
      have HF := Lib.hid ((setRow_other _ w1.heap.size (w1.heap.size + 1) cs' (by omega)).trans (heap_alloc2_new w1 (.cells zeroDk 25) (.cells #[.int .i64 0, .int .i64 0] 28)))
      clear hst hx1
      simp only [fAgg]
      go_wp2_with (first | refine wpList_allocS rfl rfl ?_ | refine wpList_store_row rfl 25 _ _ rfl w1.heap.size cs' rfl rfl 25 zeroDk HZ.out (by rw [HS2.out]; exact sizeS) (by rw [HS2.out]; rfl) HO.out ?_ | refine wpList_store_row rfl 28 _ _ rfl (w1.heap.size + 1) #[.int .i64 0, .int .i64 0] rfl rfl 28 _ HF.out sizeF rfl (by kernel_rfl) ?_)
      go_meet
      exact ⟨_, cs', rfl, rfl, rfl, HA.out.v, HA.out.f, HX1.out.trans HA.out.x⟩
    case rest =>
      obtain ⟨g3, cs3, rfl, rfl, rfl, hv3, hf3, hx3⟩ := hcut
      obtain ⟨wb, rfl⟩ : ∃ wb : World, wb = wc := ⟨_, rfl⟩
      have HV1 := Lib.hid (HV.out.ext hx3)
      have HFA := Lib.hid (ext_heap hx3 HF1.out)
      have HV3 := Lib.hid hv3
      have HF3 := Lib.hid hf3
      have HX3 := Lib.hid (HX.out.trans hx3)
      clear hv3 hf3 hx3 HV HF1 HX
      go_upto_region 3 with (fail)
      go_cut [6, 7] (fun s6 s7 wx => ∃ g6 cs6, s6 = .pointer (some ⟨g6, 0, none⟩) ∧ s7 = .pointer (some ⟨g6 + 1, 0, none⟩) ∧ Var wx g6 cs6 ex1 ∧ wx.heap[g6 + 1]? = some (.cells #[.int .i64 0, .int .i64 0] 28 (0, 0)) ∧ Ext wb wx)
      case first =>
        have HR := Lib.hid (step_go cs exS wb HV1.out.st (HT.out.below HX3.out h8) (Nat.le_trans h8 HX3.out.size))
        go_wp2_with (refine wpList_load_row rfl 25 _ rfl g rfl 25 cs (0, 0) _ HV1.out.g Tryd.underlying25 rfl (by rw [HS.out]; exact sizeS) ?_)
        refine HR.out.mono ?_
        rw [ex_run1]
        rintro e w1 ⟨cs', rfl, hst, hx1⟩
        have HA := Lib.hid (asg_mk w1 hst.st 0 0)
        have HS2 := Lib.hid hst.st.size
        have HO := Lib.hid (dk_one hst.st)
        have HX1 := Lib.hid hx1
        have HZ := Lib.hid (heap_alloc2_old w1 (.cells zeroDk 25) (.cells #[.int .i64 0, .int .i64 0] 28))
        have HF := Lib.hid ((setRow_other _ w1.heap.size (w1.heap.size + 1) cs' (by omega)).trans (heap_alloc2_new w1 (.cells zeroDk 25) (.cells #[.int .i64 0, .int .i64 0] 28)))
        clear hst hx1
        simp only [fAgg]
        go_wp2_with (first | refine wpList_allocS rfl rfl ?_ | refine wpList_store_row rfl 25 _ _ rfl w1.heap.size cs' rfl rfl 25 zeroDk HZ.out (by rw [HS2.out]; exact sizeS) (by rw [HS2.out]; rfl) HO.out ?_ | refine wpList_store_row rfl 28 _ _ rfl (w1.heap.size + 1) #[.int .i64 0, .int .i64 0] rfl rfl 28 _ HF.out sizeF rfl (by kernel_rfl) ?_)
        go_meet
        exact ⟨_, cs', rfl, rfl, HA.out.v, HA.out.f, HX1.out.trans HA.out.x⟩
      case rest =>
        obtain ⟨g6, cs6, rfl, rfl, hv6, hf6, hx6⟩ := hcut
        obtain ⟨wd, rfl⟩ : ∃ wd : World, wd = wc := ⟨_, rfl⟩
        have HFB := Lib.hid (ext_heap hx6 HFA.out)
        have HFC := Lib.hid (ext_heap hx6 HF3.out)
        have HV4 := Lib.hid (HV3.out.ext hx6)
        have HV6 := Lib.hid hv6
        have HF6 := Lib.hid hf6
        have HX6 := Lib.hid (HX3.out.trans hx6)
        clear hv6 hf6 hx6 HV3 HFA HF3 HX3
        go_upto_region 4 with (fail)
        go_cut [8, 9] (fun s8 s9 wx => ∃ g9, s8 = .string ⟨#[48, 49, 32, 45, 48, 48, 48, 49, 50, 10]⟩ ∧ s9 = .pointer (some ⟨g9, 0, none⟩) ∧ wx.heap[g9]? = some (.cells #[.int .i64 0, .int .i64 0] 28 (0, 0)) ∧ Ext wd wx)
        case first =>
          go_wp2_with fail
          have HXA := Lib.hid ((Ext.refl wd).alloc (.cells #[.int .i64 0, .int .i64 (-12)] 3))
          have HW := Lib.hid (write_all (some ⟨wd.heap.size, 0, none⟩) [0, -12] 2 (wd.alloc (.cells #[.int .i64 0, .int .i64 (-12)] 3)) (by decide) (sl_block (heap_alloc_new wd _) rfl) (HT.out.below (HX6.out.trans HXA.out) h8) (Nat.le_trans h8 (HX6.out.trans HXA.out).size))
          refine HW.out.mono ?_
          rw [ex_write]
          rintro e w1 ⟨rfl, hx1⟩
          have HX1 := Lib.hid (HXA.out.trans hx1)
          clear hx1
          simp only [fAgg]
          go_wp2_with fail
          go_meet
          exact ⟨_, rfl, rfl, heap_alloc_new w1 _, HX1.out.trans ((Ext.refl w1).alloc _)⟩
        case rest =>
          obtain ⟨g9, rfl, rfl, hf9, hx9⟩ := hcut
          obtain ⟨we, rfl⟩ : ∃ we : World, we = wc := ⟨_, rfl⟩
          have HFD := Lib.hid (ext_heap hx9 HFB.out)
          have HFE := Lib.hid (ext_heap hx9 HFC.out)
          have HV5 := Lib.hid (HV4.out.ext hx9)
          have HV7 := Lib.hid (HV6.out.ext hx9)
          have HF7 := Lib.hid (ext_heap hx9 HF6.out)
          have HF9 := Lib.hid hf9
          have HX9 := Lib.hid (HX6.out.trans hx9)
          clear hf9 hx9 HFB HFC HV4 HV6 HF6 HX6
          go_upto_region 5 with (fail)
          go_cut [10, 11] (fun s10 s11 wx => ∃ A c g11, s10 = .slice A 100 c ∧ Sl wx .i64 A ([0, -12] ++ List.replicate 98 0) ∧ c ≤ maxLen ∧ s11 = .pointer (some ⟨g11, 0, none⟩) ∧ wx.heap[g11]? = some (.cells #[.int .i64 0, .int .i64 0] 28 (0, 0)) ∧ Ext we wx)
          case first =>
            have hrd := read_all exC we (byt_exC) (by decide)
            rw [ex_read, ← ex_nums] at hrd
            have HRD := Lib.hid hrd
            clear hrd
            go_wp2_with fail
            refine HRD.out.mono ?_
            rintro e w1 ⟨A, c, rfl, hsl, _, _, hcm, hx1⟩
            have HX1 := Lib.hid hx1
            have HSL := Lib.hid hsl
            have HCM := Lib.hid hcm
            clear hx1 hsl hcm
            simp only [fAgg]
            go_wp2_with fail
            go_meet
            exact ⟨A, c, _, rfl, HSL.out.ext ((Ext.refl w1).alloc _), HCM.out, rfl, heap_alloc_new w1 _, HX1.out.trans ((Ext.refl w1).alloc _)⟩
          case rest =>
            obtain ⟨A, c, g11, rfl, hsl, hcm, rfl, hf11, hx11⟩ := hcut
            have f2 : wc.cell? ⟨g + 1, 0, none⟩ = some (.int .i64 0) := blk_cell (ext_heap hx11 HFD.out) 0
            have f5 : wc.cell? ⟨g3 + 1, 0, none⟩ = some (.int .i64 0) := blk_cell (ext_heap hx11 HFE.out) 0
            have f7 : wc.cell? ⟨g6 + 1, 0, none⟩ = some (.int .i64 0) := blk_cell (ext_heap hx11 HF7.out) 0
            have f9 : wc.cell? ⟨g9, 0, none⟩ = some (.int .i64 0) := blk_cell (ext_heap hx11 HF9.out) 0
            have f11 : wc.cell? ⟨g11, 0, none⟩ = some (.int .i64 0) := blk_cell hf11 0
            have v3 := HV5.out.ext hx11
            have v6 := HV7.out.ext hx11
            obtain ⟨A6, c6, e6, _, m6, _, s6⟩ := v3.st.output
            have o6 : wc.cell? ⟨g3, 106, none⟩ = some (.slice A6 5 c6) := (blk_cell v3.g 106).trans e6
            have o7 : wc.cell? ⟨g3, 107, none⟩ = some (.int .i64 1) := (blk_cell v3.g 107).trans v3.st.stop
            have o1 : wc.cell? ⟨g6, 101, none⟩ = some (.int .i64 250) := (blk_cell v6.g 101).trans v6.st.a
            obtain ⟨b, o, rfl, k0⟩ := hsl.at_ (i := 0) (by decide)
            obtain ⟨b', o', hbo, k1⟩ := hsl.at_ (i := 1) (by decide)
            cases hbo
            have k0 : wc.cell? ⟨b, o, none⟩ = some (.int .i64 0) := k0
            have k1 : wc.cell? ⟨b, o + 1, none⟩ = some (.int .i64 (-12)) := k1
            have hcv : (convert 23 9 (.slice A6 5 c6)).run Tryd.prog wc = .ok (.string ⟨#[49, 55, 53, 48, 10]⟩) wc := Sl.conv (l := [49, 55, 53, 48, 10]) s6 23 5 9 Tryd.underlying23 Tryd.underlying5 Tryd.underlying9 c6
            have HVC := Lib.hid (Valid_c cs3 _ wc v3.st)
            have HG3 := Lib.hid v3.g
            have HS3 := Lib.hid v3.st.size
            have HX12 := Lib.hid (HX9.out.trans hx11)
            clear v3 v6 hf11 hx11 e6 s6 hsl hcm
            go_wp2_with (refine wpList_load_rowg (by rfl) 25 _ rfl g3 (by rfl) 25 cs3 (0, 0) _ HG3.out Tryd.underlying25 rfl (by rw [HS3.out]; exact sizeS) ?_)
            refine HVC.out.mono ?_
            rw [ex_valid]
            rintro e w10 ⟨rfl, hx10⟩
            have HX13 := Lib.hid (HX12.out.trans hx10)
            clear hx10
            simp only [fAgg]
            have hfld := fld0 0 0
            go_wp2_with fail
            go_ret
            exact ⟨rfl, HX13.out⟩
end Go.Proofs.YtbaahbpianingaaDoor
