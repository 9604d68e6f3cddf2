import Derived.Test.YtbaahbpianingaaDoorMg34
import Derived.Stop.LaidErr
/- What the claims of the tape machine share: what the program's text lays, a world and arguments that meet the rows. -/
namespace Go.Proofs.YtbaahbpianingaaDoor
open Go Go.ChangeShapes Go.WideShapes Go.ChangeAt Go.RowKit
open Tape (Rule Ts)
set_option maxRecDepth 100000
def laidLT : List (String × DataW Unit) := [("math/bits.deBruijn32tab", Rows.laid_math_bits_deBruijn32tab), ("math/bits.deBruijn64tab", Rows.laid_math_bits_deBruijn64tab), ("internal/strconv.uint64pow10", Rows.laid_internal_strconv_uint64pow10), ("unicode/utf8.acceptRanges", Rows.laid_unicode_utf8_acceptRanges), ("strconv.ErrRange", Rows.laid_strconv_ErrRange), ("strconv.ErrSyntax", Rows.laid_strconv_ErrSyntax), ("unicode/utf8.first", Rows.laid_unicode_utf8_first)]
theorem tabs_ofT {W : World} (h : laidMetH Tryd.prog laidLT W) : Tabs W := by
  have h' : laidMet Tryd.prog laidLT W := h
  have h2 : laidMet Tryd.prog [("internal/strconv.uint64pow10", Rows.laid_internal_strconv_uint64pow10)] W := h'.filter (fun x => x.1 == "internal/strconv.uint64pow10")
  rw [powTab] at h2
  obtain ⟨t, e, t1, t2, t3, t4, t5⟩ := gPowType
  have a : Lib.TabIs Tryd.prog W "internal/strconv.uint64pow10" .u64 Lib.pow10Tab := Lib.tabIs_of_head gPow t1 t2 t3 t4 t5 h2
  intro w' hb
  unfold Lib.TabIs World.var? at a ⊢
  simp only [gPow, Option.bind_some] at a ⊢
  have hlt : 1 < W.heap.size := by
    rcases Nat.lt_or_ge 1 W.heap.size with h' | h'
    · exact h'
    · rw [Array.getElem?_eq_none h'] at a; simp at a
  rw [hb.block 1 (by decide)]
  exact a
theorem gES : Tryd.prog.globalNamed "strconv.ErrSyntax" = some 2 := by kernel_rfl
theorem g177ype : (Tryd.prog.globals[2]?).map (·.type) = some 119 := by kernel_rfl
theorem gER : Tryd.prog.globalNamed "strconv.ErrRange" = some 3 := by kernel_rfl
theorem gERType : (Tryd.prog.globals[3]?).map (·.type) = some 119 := by kernel_rfl
theorem cellsES : Tryd.prog.cellsOf 177 = 1 := by kernel_rfl
theorem cells9 : Tryd.prog.cellsOf 9 = 1 := by kernel_rfl
theorem starE : "*" ++ "errors.errorString" = "*errors.errorString" := by decide
theorem rowE (u : TypeId) (h : Tryd.prog.typeName? 3 u = some "*errors.errorString") : u = 175 :=
  typeName_ptr_named (nm := "errors.errorString") (by rw [starE]; kernel_rfl) (by kernel_rfl) (by decide) u (by rw [starE]; exact h)
theorem tabT_of {W : World} (h : laidMetH Tryd.prog laidLT W) (hs : W.ShapedOpen Tryd.prog) : TabT W := by
  have h' : laidMet Tryd.prog laidLT W := h
  have hE : laidMet Tryd.prog [("strconv.ErrSyntax", Rows.laid_strconv_ErrSyntax)] W := h'.filter (fun x => x.1 == "strconv.ErrSyntax")
  have hR : laidMet Tryd.prog [("strconv.ErrRange", Rows.laid_strconv_ErrRange)] W := h'.filter (fun x => x.1 == "strconv.ErrRange")
  obtain ⟨a0, s0, hv0, -, -, -⟩ := laid_sentinel hE gES g177ype Tryd.underlying119 rowE Tryd.underlying175 Tryd.underlying177 rfl rfl Tryd.underlying9 cellsES cells9
  obtain ⟨a1, s1, hv1, -, -, -⟩ := laid_sentinel hR gER gERType Tryd.underlying119 rowE Tryd.underlying175 Tryd.underlying177 rfl rfl Tryd.underlying9 cellsES cells9
  have c2 : W.cell? ⟨2, 0, none⟩ = some (.iface 175 (.pointer (some a0))) := by have h0 := World.var?_cell gES hv0 0; simpa using h0
  have c3 : W.cell? ⟨3, 0, none⟩ = some (.iface 175 (.pointer (some a1))) := by have h0 := World.var?_cell gER hv1 0; simpa using h0
  refine ⟨tabs_ofT h, cell_of_shapedOpen_int (zero := #[.int .i64 0]) (t := 3) hs (of_decide_eq_true (by kernel_rfl)) (by kernel_rfl) rfl (by kernel_rfl) (by kernel_rfl) Tryd.underlying3, ⟨_, c2, .inr ⟨_, _, rfl⟩⟩, ⟨_, c3, .inr ⟨_, _, rfl⟩⟩, ?_⟩
  have := World.block_lt_of_cell? W _ c3
  exact this
def firstV : Array Value := (Go.Pinned.utf8FirstZ.map (fun n : Nat => Value.int .u8 (n : Int))).toArray
def acceptV : Array Value := (([128, 191, 160, 191, 128, 159, 144, 191, 128, 143, 0, 0, 0, 0, 0, 0, 0, 0, 0, 0, 0, 0, 0, 0, 0, 0, 0, 0, 0, 0, 0, 0] : List Int).map (Value.int .u8)).toArray
def synS : ByteArray := ⟨#[105, 110, 118, 97, 108, 105, 100, 32, 115, 121, 110, 116, 97, 120]⟩
def ranS : ByteArray := ⟨#[118, 97, 108, 117, 101, 32, 111, 117, 116, 32, 111, 102, 32, 114, 97, 110, 103, 101]⟩
noncomputable def lowT : Nat := (World.holding Tryd.prog default ⟨#[], #[], []⟩).heap.size
noncomputable def laidWorldT (os : Os) : World :=
  let w0 := World.holding Tryd.prog os ⟨#[.cells #[.string synS] 177, .cells #[.string ranS] 177], #[], []⟩
  { w0 with heap := (((((((w0.heap.modify 1 (putRow powV)).modify 4 (putRow d32V)).modify 5 (putRow d64V)).modify 6 (putRow firstV)).modify 7 (putRow acceptV)).modify 2 (putRow #[.iface 175 (.pointer (some ⟨lowT, 0, none⟩))])).modify 3 (putRow #[.iface 175 (.pointer (some ⟨lowT + 1, 0, none⟩))])) }
section
variable {H : Type} {enc : TypeId × Value → H} {W : World} {r : Reach} {b0 base : Nat} {sp : Nat → Bool} {held : Bool} {v : Value} {d : DataW H} {ps : List MemPlace}
theorem arg_rules (hval : Value.okWide Tryd.prog W r b0 52 v) (hd : DataW.Trod enc Tryd.prog W base sp held 52 v d ps) : ∃ A L c, v = .slice A L.length c ∧ L.length ≤ maxLen ∧ Rls W A L ∧ ∀ q ∈ L, RuleWf q := by
  obtain ⟨a, len, cap, rfl⟩ := okWide_slice Tryd.underlying52 hval
  obtain ⟨fuel, hf⟩ := hd
  have hf' : DataW.trod enc Tryd.prog W base sp held fuel 52 [Value.slice a len cap] = some (d, ps) := hf
  obtain ⟨A, L, c, e, h1, h2, _, h4, h5⟩ := open_rules hf'
  injection e with e
  exact ⟨A, L, c, e, Nat.le_trans h1 h2, h4, h5⟩
end
def zeroLitT : Value := .agg #[.slice none 0 0, .slice none 0 0, .int .i64 0, .int .i64 0, .int .i64 0]
def zeroDataT {H : Type} : DataW H := .agg [.nil, .nil, .lit (.int .i64 0), .lit (.int .i64 0), .lit (.int .i64 0)]
end Go.Proofs.YtbaahbpianingaaDoor
namespace Go.Proofs.YtbaahbpianingaaDoor
open Go Go.Proofs Go.RowKit
open Tape (Rule Ts splitP)
set_option maxHeartbeats 6400000
set_option maxRecDepth 100000
theorem tx_lit : (⟨#[48, 32, 48, 32, 49, 32, 82, 32, 49, 10, 49, 32, 48, 32, 50, 32, 76, 32, 50, 10, 50, 32, 49, 32, 51, 32, 83, 32, 72, 10]⟩ : ByteArray) = strOfNums txC := by rfl
theorem tx_nums : numsT ⟨#[48, 32, 48, 32, 49, 32, 82, 32, 49, 10, 49, 32, 48, 32, 50, 32, 76, 32, 50, 10, 50, 32, 49, 32, 51, 32, 83, 32, 72, 10]⟩ = txC := by rfl
theorem taped_c (w : World) (ht : TabT w) : Calls Tryd.prog 31 #[] w (BRet w true) := by
  have HT := Lib.hid ht
  clear ht
  go_enter Tryd.func31, Tryd.ntmps31
  go_upto_region 1 with (fail)
  go_cut [1, 2] (fun s1 s2 wx => ∃ g1 cs1, s1 = .pointer (some ⟨g1, 0, none⟩) ∧ s2 = .pointer (some ⟨g1 + 1, 0, none⟩) ∧ VarT wx g1 cs1 tx0 ∧ wx.heap[g1 + 1]? = some (.cells #[.int .i64 0, .int .i64 0] 28 (0, 0)) ∧ Ext w wx)
  case first =>
    have HX0 := Lib.hid ((Ext.refl w).alloc (.cells (rulesV thr).toArray 88))
    have HS : Hid (Calls Tryd.prog 56 #[.slice (some ⟨w.heap.size, 0, none⟩) 3 3, .slice none 0 0] (w.alloc (.cells (rulesV thr).toArray 88)) (SRetT (w.alloc (.cells (rulesV thr).toArray 88)) (tx0, (0, 0)))) := Lib.hid (by
      rw [← tx_start]
      exact startT_all (some ⟨w.heap.size, 0, none⟩) none thr [] 3 0 (w.alloc (.cells (rulesV thr).toArray 88)) (by decide) (rls_block (heap_alloc_new w _)) thr_wf (by decide) (fun q => by cases q) (SlC.nil _ _))
    go_wp2_with (go_at_call 57; refine (three_c _).mono ?_; rintro e w' ⟨rfl, rfl⟩)
    refine HS.out.mono ?_
    rintro e w1 ⟨cs', rfl, hst, hx1⟩
    have HA := Lib.hid (asgT_mk w1 hst.st 0 0)
    have HS2 := Lib.hid hst.st.size
    have HO := Lib.hid (tsq_one hst.st)
    have HX1 := Lib.hid hx1
    have HZ := Lib.hid (heap_alloc2_old w1 (.cells zeroTs 54) (.cells #[.int .i64 0, .int .i64 0] 28))
    have HF := Lib.hid ((setRow_other _ w1.heap.size (w1.heap.size + 1) cs' (by omega)).trans (heap_alloc2_new w1 (.cells zeroTs 54) (.cells #[.int .i64 0, .int .i64 0] 28)))
    clear hst hx1
    simp only [fAgg]
    go_wp2_with (first | refine wpList_allocQ rfl rfl ?_ | refine wpList_store_row rfl 54 _ _ rfl w1.heap.size cs' rfl rfl 54 zeroTs HZ.out (by rw [HS2.out]; exact sizeQ) (by rw [HS2.out]; rfl) HO.out ?_ | refine wpList_store_row rfl 28 _ _ rfl (w1.heap.size + 1) #[.int .i64 0, .int .i64 0] rfl rfl 28 _ HF.out sizeF rfl (by kernel_rfl) ?_)
    go_meet
    exact ⟨_, cs', rfl, rfl, HA.out.v, HA.out.f, HX0.out.trans (HX1.out.trans HA.out.x)⟩
  obtain ⟨g1, cs1, rfl, rfl, hv, hf, hx⟩ := hcut
  obtain ⟨wa, rfl⟩ : ∃ wa : World, wa = wc := ⟨_, rfl⟩
  have HV1 := Lib.hid hv
  have HF1 := Lib.hid hf
  have HX := Lib.hid hx
  have HC1 := Lib.hid hv.st.size
  clear hv hf hx
  go_upto_region 2 with (fail)
  go_cut [3, 4, 5] (fun s3 s4 s5 wx => ∃ g cs, s3 = .pointer (some ⟨g, 0, none⟩) ∧ s4 = .int .i64 3 ∧ s5 = .pointer (some ⟨g + 1, 0, none⟩) ∧ VarT wx g cs tx3 ∧ wx.heap[g + 1]? = some (.cells #[.int .i64 0, .int .i64 0] 28 (0, 0)) ∧ Ext wa wx)
  case first =>
    have HR := Lib.hid (runT_all cs1 tx0 9 wa HV1.out.st)
    go_wp2_with (refine wpList_load_row rfl 54 _ rfl g1 rfl 54 cs1 (0, 0) _ HV1.out.g Tryd.underlying54 rfl (by rw [HC1.out]; exact sizeQ) ?_)
    refine HR.out.mono ?_
    rw [tx_run9]
    rintro e w1 ⟨cs', rfl, hst, hx1⟩
    have HA := Lib.hid (asgT_mk w1 hst.st 0 0)
    have HS2 := Lib.hid hst.st.size
    have HO := Lib.hid (tsq_one hst.st)
    have HX1 := Lib.hid hx1
    have HZ := Lib.hid (heap_alloc2_old w1 (.cells zeroTs 54) (.cells #[.int .i64 0, .int .i64 0] 28))
    have HF := Lib.hid ((setRow_other _ w1.heap.size (w1.heap.size + 1) cs' (by omega)).trans (heap_alloc2_new w1 (.cells zeroTs 54) (.cells #[.int .i64 0, .int .i64 0] 28)))
    clear hst hx1
    simp only [fAgg]
    go_wp2_with (first | refine wpList_allocQ rfl rfl ?_ | refine wpList_store_row rfl 54 _ _ rfl w1.heap.size cs' rfl rfl 54 zeroTs HZ.out (by rw [HS2.out]; exact sizeQ) (by rw [HS2.out]; rfl) HO.out ?_ | refine wpList_store_row rfl 28 _ _ rfl (w1.heap.size + 1) #[.int .i64 0, .int .i64 0] rfl rfl 28 _ HF.out sizeF rfl (by kernel_rfl) ?_)
    go_meet
    exact ⟨_, cs', rfl, rfl, rfl, HA.out.v, HA.out.f, HX1.out.trans HA.out.x⟩
  obtain ⟨g3, cs3, rfl, rfl, rfl, hv, hf, hx⟩ := hcut
  obtain ⟨wb, rfl⟩ : ∃ wb : World, wb = wc := ⟨_, rfl⟩
  have HV1 := Lib.hid (HV1.out.ext hx)
  have HF1 := Lib.hid (ext_heap hx HF1.out)
  have HX := Lib.hid (HX.out.trans hx)
  have HV3 := Lib.hid hv
  have HF3 := Lib.hid hf
  have HC3 := Lib.hid hv.st.size
  clear hv hf hx
  go_upto_region 3 with (fail)
  go_cut [6, 7] (fun s6 s7 wx => ∃ g cs, s6 = .pointer (some ⟨g, 0, none⟩) ∧ s7 = .pointer (some ⟨g + 1, 0, none⟩) ∧ VarT wx g cs tx1 ∧ wx.heap[g + 1]? = some (.cells #[.int .i64 0, .int .i64 0] 28 (0, 0)) ∧ Ext wb wx)
  case first =>
    have HR := Lib.hid (stepT_go cs1 tx0 wb HV1.out.st)
    go_wp2_with (refine wpList_load_row rfl 54 _ rfl g1 rfl 54 cs1 (0, 0) _ HV1.out.g Tryd.underlying54 rfl (by rw [HC1.out]; exact sizeQ) ?_)
    refine HR.out.mono ?_
    rw [tx_run1]
    rintro e w1 ⟨cs', rfl, hst, hx1⟩
    have HA := Lib.hid (asgT_mk w1 hst.st 0 0)
    have HS2 := Lib.hid hst.st.size
    have HO := Lib.hid (tsq_one hst.st)
    have HX1 := Lib.hid hx1
    have HZ := Lib.hid (heap_alloc2_old w1 (.cells zeroTs 54) (.cells #[.int .i64 0, .int .i64 0] 28))
    have HF := Lib.hid ((setRow_other _ w1.heap.size (w1.heap.size + 1) cs' (by omega)).trans (heap_alloc2_new w1 (.cells zeroTs 54) (.cells #[.int .i64 0, .int .i64 0] 28)))
    clear hst hx1
    simp only [fAgg]
    go_wp2_with (first | refine wpList_allocQ rfl rfl ?_ | refine wpList_store_row rfl 54 _ _ rfl w1.heap.size cs' rfl rfl 54 zeroTs HZ.out (by rw [HS2.out]; exact sizeQ) (by rw [HS2.out]; rfl) HO.out ?_ | refine wpList_store_row rfl 28 _ _ rfl (w1.heap.size + 1) #[.int .i64 0, .int .i64 0] rfl rfl 28 _ HF.out sizeF rfl (by kernel_rfl) ?_)
    go_meet
    exact ⟨_, cs', rfl, rfl, HA.out.v, HA.out.f, HX1.out.trans HA.out.x⟩
  obtain ⟨g6, cs6, rfl, rfl, hv, hf, hx⟩ := hcut
  obtain ⟨wd, rfl⟩ : ∃ wd : World, wd = wc := ⟨_, rfl⟩
  have HV1 := Lib.hid (HV1.out.ext hx)
  have HF1 := Lib.hid (ext_heap hx HF1.out)
  have HV3 := Lib.hid (HV3.out.ext hx)
  have HF3 := Lib.hid (ext_heap hx HF3.out)
  have HX := Lib.hid (HX.out.trans hx)
  have HV6 := Lib.hid hv
  have HF6 := Lib.hid hf
  have HC6 := Lib.hid hv.st.size
  clear hv hf hx
  go_upto_region 4 with (fail)
  go_cut [8, 9] (fun s8 s9 wx => ∃ A c g9, s8 = .slice A 2 c ∧ Sl wx .i64 A [3, 2] ∧ s9 = .pointer (some ⟨g9, 0, none⟩) ∧ wx.heap[g9]? = some (.cells #[.int .i64 0, .int .i64 0] 28 (0, 0)) ∧ Ext wd wx)
  case first =>
    have HR := Lib.hid (tape_all cs3 tx3 wd HV3.out.st)
    go_wp2_with (refine wpList_load_row rfl 54 _ rfl g3 rfl 54 cs3 (0, 0) _ HV3.out.g Tryd.underlying54 rfl (by rw [HC3.out]; exact sizeQ) ?_)
    refine HR.out.mono ?_
    rw [tx_tape]
    rintro e w1 ⟨v, rfl, ho, hx1⟩
    obtain ⟨A, c, rfl, _, _, _, hsl⟩ := own_sl ho
    have HX1 := Lib.hid hx1
    have HSL := Lib.hid hsl
    clear hx1 hsl ho
    simp only [fAgg]
    go_wp2_with fail
    go_meet
    exact ⟨A, c, _, rfl, Sl.ext HSL.out ((Ext.refl w1).alloc _), rfl, heap_alloc_new w1 _, HX1.out.trans ((Ext.refl w1).alloc _)⟩
  obtain ⟨A8, c8, g9, rfl, hsl, rfl, hf, hx⟩ := hcut
  obtain ⟨we, rfl⟩ : ∃ we : World, we = wc := ⟨_, rfl⟩
  have HV1 := Lib.hid (HV1.out.ext hx)
  have HF1 := Lib.hid (ext_heap hx HF1.out)
  have HV3 := Lib.hid (HV3.out.ext hx)
  have HF3 := Lib.hid (ext_heap hx HF3.out)
  have HV6 := Lib.hid (HV6.out.ext hx)
  have HF6 := Lib.hid (ext_heap hx HF6.out)
  have HX := Lib.hid (HX.out.trans hx)
  have HS8 := Lib.hid hsl
  have HF9 := Lib.hid hf
  clear hsl hf hx
  go_upto_region 5 with (fail)
  go_cut [10, 11] (fun s10 s11 wx => ∃ g cs, s10 = .pointer (some ⟨g, 0, none⟩) ∧ s11 = .pointer (some ⟨g + 1, 0, none⟩) ∧ VarT wx g cs (Tape.mirror tx3) ∧ wx.heap[g + 1]? = some (.cells #[.int .i64 0, .int .i64 0] 28 (0, 0)) ∧ Ext we wx)
  case first =>
    have HR := Lib.hid (mirror_all cs3 tx3 we HV3.out.st)
    go_wp2_with (refine wpList_load_row rfl 54 _ rfl g3 rfl 54 cs3 (0, 0) _ HV3.out.g Tryd.underlying54 rfl (by rw [HC3.out]; exact sizeQ) ?_)
    refine HR.out.mono ?_
    rw [tx_mirror]
    rintro e w1 ⟨cs', rfl, hst, hx1⟩
    have HA := Lib.hid (asgT_mk w1 hst.st 0 0)
    have HS2 := Lib.hid hst.st.size
    have HO := Lib.hid (tsq_one hst.st)
    have HX1 := Lib.hid hx1
    have HZ := Lib.hid (heap_alloc2_old w1 (.cells zeroTs 54) (.cells #[.int .i64 0, .int .i64 0] 28))
    have HF := Lib.hid ((setRow_other _ w1.heap.size (w1.heap.size + 1) cs' (by omega)).trans (heap_alloc2_new w1 (.cells zeroTs 54) (.cells #[.int .i64 0, .int .i64 0] 28)))
    clear hst hx1
    simp only [fAgg]
    go_wp2_with (first | refine wpList_allocQ rfl rfl ?_ | refine wpList_store_row rfl 54 _ _ rfl w1.heap.size cs' rfl rfl 54 zeroTs HZ.out (by rw [HS2.out]; exact sizeQ) (by rw [HS2.out]; rfl) HO.out ?_ | refine wpList_store_row rfl 28 _ _ rfl (w1.heap.size + 1) #[.int .i64 0, .int .i64 0] rfl rfl 28 _ HF.out sizeF rfl (by kernel_rfl) ?_)
    go_meet
    exact ⟨_, cs', rfl, rfl, HA.out.v, HA.out.f, HX1.out.trans HA.out.x⟩
  obtain ⟨g10, cs10, rfl, rfl, hv, hf, hx⟩ := hcut
  obtain ⟨wf, rfl⟩ : ∃ wf : World, wf = wc := ⟨_, rfl⟩
  have HV1 := Lib.hid (HV1.out.ext hx)
  have HF1 := Lib.hid (ext_heap hx HF1.out)
  have HV3 := Lib.hid (HV3.out.ext hx)
  have HF3 := Lib.hid (ext_heap hx HF3.out)
  have HV6 := Lib.hid (HV6.out.ext hx)
  have HF6 := Lib.hid (ext_heap hx HF6.out)
  have HS8 := Lib.hid (HS8.out.ext hx)
  have HF9 := Lib.hid (ext_heap hx HF9.out)
  have HX := Lib.hid (HX.out.trans hx)
  have HV10 := Lib.hid hv
  have HF10 := Lib.hid hf
  have HC10 := Lib.hid hv.st.size
  clear hv hf hx
  go_upto_region 6 with (fail)
  go_cut [12, 13] (fun s12 s13 wx => ∃ g13, s12 = .string ⟨#[48, 32, 48, 32, 49, 32, 82, 32, 49, 10, 49, 32, 48, 32, 50, 32, 76, 32, 50, 10, 50, 32, 49, 32, 51, 32, 83, 32, 72, 10]⟩ ∧ s13 = .pointer (some ⟨g13, 0, none⟩) ∧ wx.heap[g13]? = some (.cells #[.int .i64 0, .int .i64 0] 28 (0, 0)) ∧ Ext wf wx)
  case first =>
    have HX0 := Lib.hid ((Ext.refl wf).alloc (.cells (rulesV thr).toArray 88))
    have HW : Hid (Calls Tryd.prog 34 #[.slice (some ⟨wf.heap.size, 0, none⟩) 3 3] (wf.alloc (.cells (rulesV thr).toArray 88)) (WRet (wf.alloc (.cells (rulesV thr).toArray 88)) (txC, (0, 0)))) := Lib.hid (by
      rw [← tx_write]
      exact writeT_all (some ⟨wf.heap.size, 0, none⟩) thr 3 (wf.alloc (.cells (rulesV thr).toArray 88)) (by decide) (rls_block (heap_alloc_new wf _)) thr_wf (HT.out.ext (HX.out.trans HX0.out)))
    go_wp2_with (go_at_call 57; refine (three_c _).mono ?_; rintro e w' ⟨rfl, rfl⟩)
    refine HW.out.mono ?_
    rintro e w1 ⟨rfl, hx1⟩
    have HX1 := Lib.hid (HX0.out.trans hx1)
    clear hx1
    simp only [fAgg]
    go_wp2_with fail
    go_meet
    exact ⟨_, by rw [tx_lit], rfl, heap_alloc_new w1 _, HX1.out.trans ((Ext.refl w1).alloc _)⟩
  obtain ⟨g13, rfl, rfl, hf, hx⟩ := hcut
  obtain ⟨wg, rfl⟩ : ∃ wg : World, wg = wc := ⟨_, rfl⟩
  have HV1 := Lib.hid (HV1.out.ext hx)
  have HF1 := Lib.hid (ext_heap hx HF1.out)
  have HV3 := Lib.hid (HV3.out.ext hx)
  have HF3 := Lib.hid (ext_heap hx HF3.out)
  have HV6 := Lib.hid (HV6.out.ext hx)
  have HF6 := Lib.hid (ext_heap hx HF6.out)
  have HS8 := Lib.hid (HS8.out.ext hx)
  have HF9 := Lib.hid (ext_heap hx HF9.out)
  have HV10 := Lib.hid (HV10.out.ext hx)
  have HF10 := Lib.hid (ext_heap hx HF10.out)
  have HX := Lib.hid (HX.out.trans hx)
  have HF13 := Lib.hid hf
  clear hf hx
  go_upto_region 7 with (fail)
  go_cut [14, 15] (fun s14 s15 wx => ∃ A c g15, s14 = .slice A 3 c ∧ Rls wx A thr ∧ s15 = .pointer (some ⟨g15, 0, none⟩) ∧ wx.heap[g15]? = some (.cells #[.int .i64 0, .int .i64 0] 28 (0, 0)) ∧ Ext wg wx)
  case first =>
    have hrd := readT_all ⟨#[48, 32, 48, 32, 49, 32, 82, 32, 49, 10, 49, 32, 48, 32, 50, 32, 76, 32, 50, 10, 50, 32, 49, 32, 51, 32, 83, 32, 72, 10]⟩ wg (by decide) (HT.out.ext HX.out)
    rw [tx_nums, tx_read] at hrd
    have HRD := Lib.hid hrd
    clear hrd
    go_wp2_with fail
    refine HRD.out.mono ?_
    rintro e w1 ⟨v, rfl, ho, hx1⟩
    obtain ⟨A, c, rfl, _, _, _, hsl⟩ := own_sl5 ho
    have HX1 := Lib.hid hx1
    have HSL := Lib.hid hsl
    clear hx1 hsl ho
    simp only [fAgg]
    go_wp2_with fail
    go_meet
    exact ⟨A, c, _, rfl, Rls.ext HSL.out ((Ext.refl w1).alloc _), rfl, heap_alloc_new w1 _, HX1.out.trans ((Ext.refl w1).alloc _)⟩
  obtain ⟨A14, c14, g15, rfl, hsl, rfl, hf, hx⟩ := hcut
  obtain ⟨wh, rfl⟩ : ∃ wh : World, wh = wc := ⟨_, rfl⟩
  have HV1 := Lib.hid (HV1.out.ext hx)
  have HF1 := Lib.hid (ext_heap hx HF1.out)
  have HV3 := Lib.hid (HV3.out.ext hx)
  have HF3 := Lib.hid (ext_heap hx HF3.out)
  have HV6 := Lib.hid (HV6.out.ext hx)
  have HF6 := Lib.hid (ext_heap hx HF6.out)
  have HS8 := Lib.hid (HS8.out.ext hx)
  have HF9 := Lib.hid (ext_heap hx HF9.out)
  have HV10 := Lib.hid (HV10.out.ext hx)
  have HF10 := Lib.hid (ext_heap hx HF10.out)
  have HF13 := Lib.hid (ext_heap hx HF13.out)
  have HX := Lib.hid (HX.out.trans hx)
  have HS14 := Lib.hid hsl
  have HF15 := Lib.hid hf
  clear hsl hf hx
  have f1 : wh.cell? ⟨g1 + 1, 0, none⟩ = some (.int .i64 0) := blk_cell HF1.out 0
  have f3 : wh.cell? ⟨g3 + 1, 0, none⟩ = some (.int .i64 0) := blk_cell HF3.out 0
  have f6 : wh.cell? ⟨g6 + 1, 0, none⟩ = some (.int .i64 0) := blk_cell HF6.out 0
  have f9 : wh.cell? ⟨g9, 0, none⟩ = some (.int .i64 0) := blk_cell HF9.out 0
  have f10 : wh.cell? ⟨g10 + 1, 0, none⟩ = some (.int .i64 0) := blk_cell HF10.out 0
  have f13 : wh.cell? ⟨g13, 0, none⟩ = some (.int .i64 0) := blk_cell HF13.out 0
  have f15 : wh.cell? ⟨g15, 0, none⟩ = some (.int .i64 0) := blk_cell HF15.out 0
  go_upto_region 10 with (fail)
  obtain ⟨A10, c10, e10, -, -, -, s10⟩ := HV10.out.st.cells
  have HS10 := Lib.hid s10
  have q34 : wh.cell? ⟨g3, 4, none⟩ = some (.int .i64 1) := (blk_cell HV3.out.g 4).trans HV3.out.st.stop
  have q62 : wh.cell? ⟨g6, 2, none⟩ = some (.int .i64 1) := (blk_cell HV6.out.g 2).trans HV6.out.st.at_
  have q101 : wh.cell? ⟨g10, 1, none⟩ = some (.slice A10 2 c10) := (blk_cell HV10.out.g 1).trans e10
  have q102 : wh.cell? ⟨g10, 2, none⟩ = some (.int .i64 1) := (blk_cell HV10.out.g 2).trans HV10.out.st.at_
  have HI1 := Lib.hid (fun (W : World) (x : Ext wh W) (g : Nat) (hg : W.heap[g]? = some (.cells #[.int .i64 3, .int .i64 2] 3 (0, 0))) => Ints_c A8 (some ⟨g, 0, none⟩) [3, 2] [3, 2] c8 2 W (by decide) (by decide) (HS8.out.ext x) (sl_block hg rfl))
  have HI2 := Lib.hid (fun (W : World) (x : Ext wh W) (g : Nat) (hg : W.heap[g]? = some (.cells #[.int .i64 2, .int .i64 3] 3 (0, 0))) => Ints_c A10 (some ⟨g, 0, none⟩) [2, 3] [2, 3] c10 2 W (by decide) (by decide) (HS10.out.ext x) (sl_block hg rfl))
  have HSR := Lib.hid (fun (W : World) (x : Ext wh W) (g : Nat) (hg : W.heap[g]? = some (.cells (rulesV thr).toArray 88 (0, 0))) => SameRules_c A14 (some ⟨g, 0, none⟩) thr thr c14 3 W (by decide) (by decide) (HS14.out.ext x) (rls_block hg))
  have HVC := Lib.hid (fun (W : World) (x : Ext wh W) => tx_valid ▸ Valid_t cs3 tx3 W (HV3.out.st.ext x))
  clear e10 s10
  go_wp2_with fail
  refine (HI1.out _ ((Ext.refl wh).alloc _) _ (heap_alloc_new wh _)).mono ?_
  rintro e wi ⟨rfl, hn⟩
  have HXa : Hid (Ext wh wi) := Lib.hid (by obtain ⟨n, rfl⟩ := hn; exact ((Ext.refl wh).alloc _).drewN n)
  have r101 := Ext.cell HXa.out q101
  have r102 := Ext.cell HXa.out q102
  clear hn
  go_wp2_with fail
  refine (HI2.out _ (HXa.out.alloc _) _ (heap_alloc_new wi _)).mono ?_
  rintro e wj ⟨rfl, hn⟩
  have HXb : Hid (Ext wh wj) := Lib.hid (by obtain ⟨n, rfl⟩ := hn; exact (HXa.out.alloc _).drewN n)
  have r103 := Ext.cell HXb.out q102
  clear hn
  go_wp2_with (go_at_call 57; refine (three_c _).mono ?_; rintro e w' ⟨rfl, rfl⟩)
  refine (HSR.out _ (HXb.out.alloc _) _ (heap_alloc_new wj _)).mono ?_
  rintro e wk ⟨rfl, hn⟩
  have HXc : Hid (Ext wh wk) := Lib.hid (by obtain ⟨n, rfl⟩ := hn; exact (HXb.out.alloc _).drewN n)
  clear hn
  have HG3 := Lib.hid (ext_heap HXc.out HV3.out.g)
  go_wp2_with (refine wpList_load_rowg (by rfl) 54 _ rfl g3 (by rfl) 54 cs3 (0, 0) _ HG3.out Tryd.underlying54 rfl (by rw [HC3.out]; exact sizeQ) ?_)
  refine (HVC.out _ HXc.out).mono ?_
  rintro e wl ⟨rfl, hx⟩
  have HXd := Lib.hid (HX.out.trans (HXc.out.trans hx))
  clear hx
  simp only [fAgg]
  have hfld := fld0 0 0
  go_wp2_with fail
  go_ret
  exact ⟨rfl, HXd.out⟩
end Go.Proofs.YtbaahbpianingaaDoor
namespace Go.Proofs.YtbaahbpianingaaDoor
open Go Go.Proofs Go.RowKit
open Tape (Rule Ts splitP)
set_option maxHeartbeats 6400000
set_option maxRecDepth 100000
theorem lineT_byt {r : Rule} : Byt (Tape.bodyR r) := by
  have hd := decT_byt
  have h32 : (0 : Int) ≤ 32 ∧ (32 : Int) < 256 := by decide
  intro x hx
  unfold Tape.bodyR at hx
  simp only [List.mem_append, List.mem_cons, List.not_mem_nil, or_false] at hx
  have hm : 0 ≤ Tape.moveC r.mv ∧ Tape.moveC r.mv < 256 := by
    unfold Tape.moveC; split
    · decide
    · split <;> decide
  rcases hx with e | e | e | e | e | e | e | e | e
  · exact hd _ x e
  · rw [e]; exact h32
  · exact hd _ x e
  · rw [e]; exact h32
  · exact hd _ x e
  · rw [e]; exact h32
  · rw [e]; exact hm
  · rw [e]; exact h32
  · unfold Tape.nextF at e
    split at e
    · exact hd _ x e
    · rw [List.mem_singleton.1 e]; decide
theorem textT_byt : ∀ L : List Rule, Byt (Tape.textR L)
  | [] => fun x hx => by simp [Tape.textR] at hx
  | r :: L => by
    intro x hx
    rw [Tape.text_cons] at hx
    rcases List.mem_append.1 hx with e | e
    · exact lineT_byt x e
    · rcases List.mem_cons.1 e with e | e
      · rw [e]; decide
      · exact textT_byt L x e
theorem writeT_two (L : List Rule) : (writeT L).2 = faultR L := by
  unfold writeT
  split
  · rename_i h; exact h.symm
  · rfl
theorem againT_c (A : Option Addr) (L : List Rule) (c' : Nat) (B : ByteArray) (w : World) (hl : L.length ≤ maxLen) (h1 : Rls w A L) (hwf : ∀ r ∈ L, RuleWf r) (hB : B.size ≤ maxLen) (ht : TabT w) : Calls Tryd.prog 9 #[.slice A L.length c', .string B] w (BRet w true) := by
  have HT := Lib.hid ht
  have HL := Lib.hid hl
  have H1 := Lib.hid h1
  have HB := Lib.hid hB
  have HWF := Lib.hid hwf
  clear ht hl h1 hB hwf
  obtain ⟨q, hq⟩ : ∃ q, q = L.length := ⟨_, rfl⟩
  have HQ := Lib.hid hq
  rw [← hq]
  clear hq
  go_enter Tryd.func9, Tryd.ntmps9
  go_upto_region 3 with (go_at_call 31; refine (taped_c _ HT.out).mono ?_; rintro e w0 ⟨rfl, hx0⟩; have HX0 := Lib.hid hx0; clear hx0)
  obtain ⟨c, i, hci⟩ : ∃ c i : Int, faultR L = (c, i) := ⟨_, _, rfl⟩
  have HC := Lib.hid hci
  clear hci
  go_cut [5, 6] (fun s5 s6 wx => ∃ g, s5 = .string (strOfNums (writeT L).1) ∧ s6 = .pointer (some ⟨g, 0, none⟩) ∧ wx.heap[g]? = some (.cells #[.int .i64 c, .int .i64 i] 28 (0, 0)) ∧ Ext w wx)
  case first =>
    have hr := writeT_all A L c' w0 HL.out (H1.out.ext HX0.out) HWF.out (HT.out.ext HX0.out)
    rw [← HQ.out] at hr
    have HR := Lib.hid hr
    clear hr
    go_wp2_with fail
    refine HR.out.mono ?_
    rintro e w1 ⟨he, hx1⟩
    rw [writeT_two, HC.out] at he
    subst he
    have HX1 := Lib.hid hx1
    have HF := Lib.hid (heap_alloc_new w1 (.cells #[.int .i64 0, .int .i64 0] 28))
    clear hx1
    simp only [fAgg]
    go_wp2_with (refine wpList_store_row rfl 28 _ _ rfl w1.heap.size #[.int .i64 c, .int .i64 i] rfl rfl 28 _ HF.out sizeF rfl (by kernel_rfl) ?_)
    go_meet
    exact ⟨_, rfl, rfl, setRow_heap _ _ _ _ _ _ HF.out, (HX0.out.trans HX1.out).trans (((Ext.refl w1).alloc _).setRow (Nat.le_refl _) _)⟩
  obtain ⟨g6, rfl, rfl, hf6, hx6⟩ := hcut
  obtain ⟨wa, rfl⟩ : ∃ wa : World, wa = wc := ⟨_, rfl⟩
  have HX6 := Lib.hid hx6
  have kc : wa.cell? ⟨g6, 0, none⟩ = some (.int .i64 c) := blk_cell hf6 0
  clear hf6 hx6
  go_upto_if 22 with (fail)
  go_cut [] (fun wx => Ext w wx)
  case first =>
    by_cases hc0 : c = 0
    rotate_left
    · have hne : (c == 0) = false := by simpa using hc0
      go_wp2_with fail
      go_meet
      exact HX6.out
    subst hc0
    have hf0 : faultR L = (0, 0) := by
      rcases Classical.em (faultR L = (0, 0)) with e | e
      · exact e
      · exact absurd (by rw [HC.out]) (faultR_code e)
    have HWD : Hid ((writeT L).1 = Tape.textR L) := by
      show _ = _
      unfold writeT; rw [if_pos hf0]
    have HRW : Hid (readT (numsT (strOfNums (Tape.textR L))) = (L, (0, 0))) := Lib.hid (by rw [nums_str (textT_byt L)]; exact read_write hf0)
    have hsz : (strOfNums (Tape.textR L)).size ≤ maxLen := by
      rw [strOfNums_size]
      have h2 := rules_ok hf0
      have h3 := text_le h2.2
      unfold maxLen
      omega
    have hr := readT_all (strOfNums (Tape.textR L)) wa hsz (HT.out.ext HX6.out)
    rw [HRW.out, ← HWD.out] at hr
    have HR := Lib.hid hr
    clear hf0 hsz hr
    go_upto_region 5 with (fail)
    go_cut [7, 8] (fun s7 s8 wx => ∃ A7 c7 g8, s7 = .slice A7 q c7 ∧ Rls wx A7 L ∧ s8 = .pointer (some ⟨g8, 0, none⟩) ∧ wx.heap[g8]? = some (.cells #[.int .i64 0, .int .i64 0] 28 (0, 0)) ∧ Ext wa wx)
    case first =>
      go_wp2_with fail
      refine HR.out.mono ?_
      rintro e w1 ⟨v, rfl, ho, hx1⟩
      obtain ⟨A7, c7, rfl, _, _, _, hsl⟩ := own_sl5 ho
      have HX1 := Lib.hid hx1
      have HS := Lib.hid hsl
      clear hx1 hsl ho
      simp only [fAgg]
      go_wp2_with fail
      go_meet
      exact ⟨A7, c7, _, by rw [HQ.out], Rls.ext HS.out ((Ext.refl w1).alloc _), rfl, heap_alloc_new w1 _, HX1.out.trans ((Ext.refl w1).alloc _)⟩
    obtain ⟨A7, c7, g8, rfl, hs7, rfl, hf8, hx8⟩ := hcut
    obtain ⟨wb, rfl⟩ : ∃ wb : World, wb = wc := ⟨_, rfl⟩
    have HX8 := Lib.hid (HX6.out.trans hx8)
    have k8 : wb.cell? ⟨g8, 0, none⟩ = some (.int .i64 0) := blk_cell hf8 0
    have hsr := SameRules_c A7 A L L c7 c' wb HL.out HL.out hs7 (H1.out.ext HX8.out)
    rw [← HQ.out] at hsr
    have HSR := Lib.hid hsr
    clear hf8 hx8 hs7 kc hsr
    go_wp2_with (go_at_call 36; refine HSR.out.mono ?_; rintro e w' ⟨rfl, n, rfl⟩; rw [show decide (L = L) = true from by simp])
    go_meet
    exact HX8.out.drewN n
  obtain ⟨wd, rfl⟩ : ∃ wd : World, wd = wc := ⟨_, rfl⟩
  have HX9 := Lib.hid hcut
  clear hcut kc
  obtain ⟨m, rc, ri, hrd⟩ : ∃ m rc ri, readT (numsT B) = (m, (rc, ri)) := ⟨_, _, _, rfl⟩
  have HRD := Lib.hid hrd
  clear hrd
  go_upto_region 8 with (fail)
  go_cut [9, 10] (fun s9 s10 wx => ∃ A11 c11 g12, s9 = .slice A11 m.length c11 ∧ Rls wx A11 m ∧ m.length ≤ maxLen ∧ s10 = .pointer (some ⟨g12, 0, none⟩) ∧ wx.heap[g12]? = some (.cells #[.int .i64 rc, .int .i64 ri] 28 (0, 0)) ∧ Ext w wx)
  case first =>
    have HR := Lib.hid (readT_all B wd HB.out (HT.out.ext HX9.out))
    go_wp2_with fail
    refine HR.out.mono ?_
    rw [HRD.out]
    rintro e w1 ⟨v, rfl, ho, hx1⟩
    obtain ⟨A7, c7, rfl, hlc, hcm, _, hsl⟩ := own_sl5 ho
    have HX1 := Lib.hid hx1
    have HS := Lib.hid hsl
    have HM := Lib.hid (Nat.le_trans hlc hcm)
    have HF := Lib.hid (heap_alloc_new w1 (.cells #[.int .i64 0, .int .i64 0] 28))
    clear hx1 hsl hlc hcm ho
    simp only [fAgg]
    go_wp2_with (refine wpList_store_row rfl 28 _ _ rfl w1.heap.size #[.int .i64 rc, .int .i64 ri] rfl rfl 28 _ HF.out sizeF rfl (by kernel_rfl) ?_)
    go_meet
    have hxf := ((Ext.refl w1).alloc (.cells #[.int .i64 0, .int .i64 0] 28)).setRow (Nat.le_refl _) #[.int .i64 rc, .int .i64 ri]
    exact ⟨A7, c7, _, rfl, Rls.ext HS.out hxf, HM.out, rfl, setRow_heap _ _ _ _ _ _ HF.out, (HX9.out.trans HX1.out).trans hxf⟩
  obtain ⟨A11, c11, g12, rfl, hs11, hm, rfl, hf12, hx12⟩ := hcut
  obtain ⟨we, rfl⟩ : ∃ we : World, we = wc := ⟨_, rfl⟩
  have HX12 := Lib.hid hx12
  have HS11 := Lib.hid hs11
  have HM := Lib.hid hm
  have k12 : we.cell? ⟨g12, 0, none⟩ = some (.int .i64 rc) := blk_cell hf12 0
  clear hf12 hx12 hs11 hm
  have hcode := readT_code (numsT B)
  rw [HRD.out] at hcode
  rcases hcode with hz | ⟨hnz, hnil⟩
  · have hrc : rc = 0 := by have := congrArg Prod.fst hz; simpa using this
    have hri : ri = 0 := by have := congrArg Prod.snd hz; simpa using this
    subst hrc hri
    obtain ⟨hf, htx⟩ := write_read HRD.out
    have hws : writeT m = (numsT B, (0, 0)) := by unfold writeT; rw [if_pos hf, htx]
    have hmw : ∀ r ∈ m, RuleWf r := fun r hr => fits_wf (rule_fits ((rules_ok hf).2 r hr))
    have hr := writeT_all A11 m c11 we HM.out HS11.out hmw (HT.out.ext HX12.out)
    rw [hws] at hr
    have HR : Hid (Calls Tryd.prog 34 #[.slice A11 m.length c11] we fun e w' => e = .returned (.tuple #[.string B, .agg #[.int .i64 0, .int .i64 0]]) ∧ Ext we w') := Lib.hid (hr.mono (by
      rintro e w' ⟨rfl, hx⟩
      exact ⟨by rw [str_numsT]; rfl, hx⟩))
    obtain ⟨qm, hqm⟩ : ∃ qm, qm = m.length := ⟨_, rfl⟩
    rw [← hqm] at HR ⊢
    clear hz hf htx hws hmw hr hqm
    go_wp2_with fail
    refine HR.out.mono ?_
    rintro e w1 ⟨rfl, hx1⟩
    have HX1 := Lib.hid (HX12.out.trans hx1)
    clear hx1
    go_wp2_with fail
    go_ret
    exact ⟨by simp, HX1.out.alloc _⟩
  · have hne : (rc == 0) = false := by simpa using hnz
    have hm0 : m = [] := hnil
    subst hm0
    clear hnz hnil
    go_wp2_with fail
    go_ret
    exact ⟨rfl, HX12.out⟩
end Go.Proofs.YtbaahbpianingaaDoor
