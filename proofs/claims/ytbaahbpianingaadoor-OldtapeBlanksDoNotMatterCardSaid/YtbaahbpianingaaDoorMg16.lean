import Derived.Test.YtbaahbpianingaaDoorMg15
import Derived.Laws.CopyOwn
namespace Go.Proofs.YtbaahbpianingaaDoor
open Go Go.Proofs Go.RowKit
open Acc (Dk red five)
set_option maxHeartbeats 3200000
set_option maxRecDepth 100000
theorem results_two {P : Program} {fn : Func} {p q : Tmp} {tp tq : TypeId} (h : fn.results = #[.cell p tp, .cell q tq]) (tmps : Array Value) (w : World) (g g' : Nat) (t t' : TypeId) (cs cs' : Array Value) (fr fr' : Nat × Nat) (d d' : TypeDesc)
    (hp : tmps.getD p undef = .pointer (some ⟨g, 0, none⟩)) (hg : w.heap[g]? = some (.cells cs t fr)) (hu : P.underlying tp = some d) (hd : (match d with | .struct _ | .array _ _ => true | _ => false) = true) (hi : (P.info? tp).map (·.size) = some cs.size)
    (hq : tmps.getD q undef = .pointer (some ⟨g', 0, none⟩)) (hg' : w.heap[g']? = some (.cells cs' t' fr')) (hu' : P.underlying tq = some d') (hd' : (match d' with | .struct _ | .array _ _ => true | _ => false) = true) (hi' : (P.info? tq).map (·.size) = some cs'.size) :
    (results fn tmps).run P w = .ok (.tuple #[.agg cs, .agg cs']) w := by
  have hp' : tmps[p]?.getD undef = .pointer (some ⟨g, 0, none⟩) := by simpa using hp
  have hq' : tmps[q]?.getD undef = .pointer (some ⟨g', 0, none⟩) := by simpa using hq
  simp [results, h, hp', hq', asAddr, run_loadVar_row w g t tp cs fr d hg hu hd hi, run_loadVar_row w g' t' tq cs' fr' d' hg' hu' hd' hi']
theorem step_ext (w1 : World) (cs' : Array Value) (c i : Int) (o : Obj) : Ext w1 ((((w1.alloc (.cells zeroDk 25)).alloc o).setRow w1.heap.size cs').setRow (w1.heap.size + 1) #[.int .i64 c, .int .i64 i]).drew :=
  ((((((Ext.refl w1).alloc _).alloc _).setRow (Nat.le_refl _) _).setRow (by omega) _).drew)
theorem step_heap (w1 : World) (cs' : Array Value) (c i : Int) (o : Obj) (ho : o = .cells #[.int .i64 0, .int .i64 0] 28 := by rfl) :
    ((((w1.alloc (.cells zeroDk 25)).alloc o).setRow w1.heap.size cs').setRow (w1.heap.size + 1) #[.int .i64 c, .int .i64 i]).drew.heap[w1.heap.size]? = some (.cells cs' 25 (0, 0)) ∧
    ((((w1.alloc (.cells zeroDk 25)).alloc o).setRow w1.heap.size cs').setRow (w1.heap.size + 1) #[.int .i64 c, .int .i64 i]).drew.heap[w1.heap.size + 1]? = some (.cells #[.int .i64 c, .int .i64 i] 28 (0, 0)) := by
  subst ho
  refine ⟨?_, ?_⟩
  · show (((((w1.alloc (.cells zeroDk 25)).alloc _).setRow w1.heap.size cs').setRow (w1.heap.size + 1) #[.int .i64 c, .int .i64 i])).heap[w1.heap.size]? = _
    rw [setRow_other _ _ _ _ (by omega)]
    exact setRow_heap _ _ _ _ _ _ (heap_alloc2_old w1 _ _)
  · show (((((w1.alloc (.cells zeroDk 25)).alloc _).setRow w1.heap.size cs').setRow (w1.heap.size + 1) #[.int .i64 c, .int .i64 i])).heap[w1.heap.size + 1]? = _
    exact setRow_heap _ _ _ _ _ _ ((setRow_other _ _ _ _ (by omega)).trans (heap_alloc2_new w1 _ _))
def SRet (w : World) (r : Dk × (Int × Int)) (e : Ending) (w' : World) : Prop :=
  ∃ cs', e = .returned (.tuple #[.agg cs', fAgg r.2]) ∧ DkFr w.heap.size w' cs' r.1 ∧ Ext w w'
theorem step_fin {w w1 : World} {cs cs' : Array Value} {r1 : Dk} {c i : Int} {W : World} (h : DkFr W.heap.size w1 cs' r1) (hb : Begun w ((((w1.alloc (.cells zeroDk 25)).alloc (.cells #[.int .i64 0, .int .i64 0] 28)).setRow w1.heap.size cs').setRow (w1.heap.size + 1) #[.int .i64 c, .int .i64 i]).drew cs) (hW : w.heap.size + 2 < W.heap.size) (_hlt : w.heap.size + 2 < w1.heap.size) :
    SRet w (r1, (c, i)) (.returned (.tuple #[.agg cs', .agg #[.int .i64 c, .int .i64 i]])) (((((((w1.alloc (.cells zeroDk 25)).alloc (.cells #[.int .i64 0, .int .i64 0] 28)).setRow w1.heap.size cs').setRow (w1.heap.size + 1) #[.int .i64 c, .int .i64 i]).drew).setRow (w.heap.size + 1) cs').setRow (w.heap.size + 2) #[.int .i64 c, .int .i64 i]) := by
  refine ⟨cs', rfl, fun F hF => h F fun g hg hl => ?_, (hb.x.setRow (by omega) _).setRow (by omega) _⟩
  rw [hF g (by omega) (by have := (step_ext w1 cs' c i (.cells #[.int .i64 0, .int .i64 0] 28)).size; simp at this ⊢; omega), setRow_other _ _ _ _ (by omega), setRow_other _ _ _ _ (by omega)]
  exact (step_ext w1 cs' c i (.cells #[.int .i64 0, .int .i64 0] 28)).block g hl
theorem setRow_ext {w W : World} {cs : Array Value} {g : Nat} (h : Begun w W cs) (hg : w.heap.size ≤ g) {A : Option Addr} {xs : List Value} (hs : SlC w A xs) (c : Array Value) : SlC (W.setRow g c) A xs := hs.ext (h.x.setRow hg c)
theorem step_go (cs : Array Value) (s : Dk) (w : World) (h : DkIs w cs s) (ht : Tabs w) (h8 : 2 ≤ w.heap.size) : Calls Tryd.prog 17 #[.agg cs] w (SRet w ((runG s 1).1, (runG s 1).2.2)) := by
  have HV := Lib.hid (fun (W : World) (hx : Ext w W) => run_all cs s 1 W (h.ext hx) (ht.below hx h8) (Nat.le_trans h8 hx.size))
  obtain ⟨r, hr⟩ : ∃ r, runG s 1 = r := ⟨_, rfl⟩
  rw [hr] at HV ⊢
  have HS := Lib.hid h.size
  clear h ht
  go_enter Tryd.func17, Tryd.ntmps17
  go_upto_region 0 with (fail)
  go_cut [1, 2, 3] (fun s1 s2 s3 wx => s1 = .pointer (some ⟨w.heap.size, 0, none⟩) ∧ s2 = .pointer (some ⟨w.heap.size + 1, 0, none⟩) ∧ s3 = .pointer (some ⟨w.heap.size + 2, 0, none⟩) ∧ Begun w wx cs)
  case first =>
    go_wp2_with (refine wpList_allocS rfl rfl ?_)
    go_meet
    exact ⟨rfl, rfl, rfl, begun_mk w cs⟩
  case rest =>
    obtain ⟨rfl, rfl, rfl, hbg⟩ := hcut
    have HG0 := Lib.hid hbg.g0
    have HBG := Lib.hid hbg
    clear hbg
    go_wp2_with (refine wpList_load_row rfl 25 _ rfl w.heap.size rfl 25 cs (0, 0) _ HG0.out Tryd.underlying25 rfl (by rw [HS.out]; exact sizeS) ?_)
    refine (HV.out wc HBG.out.x).mono ?_
    rintro e w1 ⟨cs', rfl, hi2, hx1⟩
    obtain ⟨r1, r2, c, i⟩ := r
    simp only [fAgg]
    have HI2 := Lib.hid hi2
    have HS2 := Lib.hid hi2.st.size
    have hlt1 := (HBG.out.ext hx1).lt
    have HB1 := Lib.hid (HBG.out.ext hx1)
    have H28 := Lib.hid (heap_alloc2_old w1 (.cells zeroDk 25) (.cells #[.int .i64 0, .int .i64 0] 28))
    have H30 := Lib.hid ((setRow_other _ w1.heap.size (w1.heap.size + 1) cs' (by omega)).trans (heap_alloc2_new w1 (.cells zeroDk 25) (.cells #[.int .i64 0, .int .i64 0] 28)))
    clear hx1 hi2
    go_wp2_with (first | refine wpList_allocS rfl rfl ?_ | refine wpList_store_row rfl 25 _ _ rfl w1.heap.size cs' rfl rfl 25 zeroDk H28.out (by rw [HS2.out]; exact sizeS) (by rw [HS2.out]; rfl) (dk_one HI2.out.st) ?_ | refine wpList_store_row rfl 28 _ _ rfl (w1.heap.size + 1) #[.int .i64 c, .int .i64 i] rfl rfl 28 _ H30.out sizeF rfl (by kernel_rfl) ?_)
    have HX := Lib.hid (step_heap w1 cs' c i (.cells #[.int .i64 0, .int .i64 0] 28))
    have HB2 := Lib.hid (HB1.out.ext (step_ext w1 cs' c i (.cells #[.int .i64 0, .int .i64 0] 28)))
    refine wp_region_any (by kernel_rfl) ?_
    refine wpAny_ready (rs := [0, 1]) (by kernel_rfl) (by simp) ?_
    refine (AllReady.cons rfl (fun K hK => ?_) (AllReady.cons rfl (fun K hK => ?_) AllReady.nil))
    · refine step_load_row rfl 25 _ rfl w1.heap.size (by simp [Act.eval]) 25 cs' (0, 0) _ HX.out.1 Tryd.underlying25 rfl (by rw [HS2.out]; exact sizeS) ?_
      refine hK _ _ ?_
      clear hK K
      refine wpAny_ready (rs := [1, 2]) (by kernel_rfl) (by simp) ?_
      refine (AllReady.cons rfl (fun K hK => ?_) (AllReady.cons rfl (fun K hK => ?_) AllReady.nil))
      · refine step_load_row rfl 28 _ rfl (w1.heap.size + 1) (by simp [Act.eval, Act.put]) 28 #[.int .i64 c, .int .i64 i] (0, 0) _ HX.out.2 Tryd.underlying28 rfl sizeF ?_
        refine hK _ _ ?_
        clear hK K
        refine wpAny_ready (rs := [2]) (by kernel_rfl) (by simp) ?_
        refine (AllReady.cons rfl (fun K hK => ?_) AllReady.nil)
        · refine step_store_row rfl 25 _ _ rfl (w.heap.size + 1) cs' (by simp [Act.eval, Act.put]) (by simp [Act.eval, Act.put]) 25 zeroDk HB2.out.g1 (by rw [HS2.out]; exact sizeS) (by rw [HS2.out]; rfl) (dk_one HI2.out.st) ?_
          refine hK _ _ ?_
          clear hK K
          refine wpAny_ready (rs := [3]) (by kernel_rfl) (by simp) ?_
          refine (AllReady.cons rfl (fun K hK => ?_) AllReady.nil)
          · refine step_store_row rfl 28 _ _ rfl (w.heap.size + 2) #[.int .i64 c, .int .i64 i] (by simp [Act.eval, Act.put]) (by simp [Act.eval, Act.put]) 28 _ ((setRow_other _ _ _ _ (by omega)).trans HB2.out.g2) sizeF rfl (by kernel_rfl) ?_
            refine hK _ _ ?_
            clear hK K
            refine wpAny_done (by kernel_rfl) ?_ _
            go_wp2_with fail
            refine bodyPost_ret (results_two rfl _ _ (w.heap.size + 1) (w.heap.size + 2) 25 28 cs' #[.int .i64 c, .int .i64 i] (0, 0) (0, 0) _ _ rfl ?_ Tryd.underlying25 rfl (by rw [HS2.out]; exact sizeS) rfl ?_ Tryd.underlying28 rfl sizeF) rfl (step_fin HI2.out HB2.out HBG.out.lt HB1.out.lt)
            · rw [setRow_other _ _ _ _ (by omega)]; exact setRow_heap _ _ _ _ _ _ HB2.out.g1
            · exact setRow_heap _ _ _ _ _ _ ((setRow_other _ _ _ _ (by omega)).trans HB2.out.g2)
      · refine step_store_row rfl 25 _ _ rfl (w.heap.size + 1) cs' (by simp [Act.eval, Act.put]) (by simp [Act.eval, Act.put]) 25 zeroDk HB2.out.g1 (by rw [HS2.out]; exact sizeS) (by rw [HS2.out]; rfl) (dk_one HI2.out.st) ?_
        refine hK _ _ ?_
        clear hK K
        refine wpAny_ready (rs := [1]) (by kernel_rfl) (by simp) ?_
        refine (AllReady.cons rfl (fun K hK => ?_) AllReady.nil)
        · refine step_load_row rfl 28 _ rfl (w1.heap.size + 1) (by simp [Act.eval, Act.put]) 28 #[.int .i64 c, .int .i64 i] (0, 0) _ ((setRow_other _ _ _ _ (by omega)).trans HX.out.2) Tryd.underlying28 rfl sizeF ?_
          refine hK _ _ ?_
          clear hK K
          refine wpAny_ready (rs := [3]) (by kernel_rfl) (by simp) ?_
          refine (AllReady.cons rfl (fun K hK => ?_) AllReady.nil)
          · refine step_store_row rfl 28 _ _ rfl (w.heap.size + 2) #[.int .i64 c, .int .i64 i] (by simp [Act.eval, Act.put]) (by simp [Act.eval, Act.put]) 28 _ ((setRow_other _ _ _ _ (by omega)).trans HB2.out.g2) sizeF rfl (by kernel_rfl) ?_
            refine hK _ _ ?_
            clear hK K
            refine wpAny_done (by kernel_rfl) ?_ _
            go_wp2_with fail
            refine bodyPost_ret (results_two rfl _ _ (w.heap.size + 1) (w.heap.size + 2) 25 28 cs' #[.int .i64 c, .int .i64 i] (0, 0) (0, 0) _ _ rfl ?_ Tryd.underlying25 rfl (by rw [HS2.out]; exact sizeS) rfl ?_ Tryd.underlying28 rfl sizeF) rfl (step_fin HI2.out HB2.out HBG.out.lt HB1.out.lt)
            · rw [setRow_other _ _ _ _ (by omega)]; exact setRow_heap _ _ _ _ _ _ HB2.out.g1
            · exact setRow_heap _ _ _ _ _ _ ((setRow_other _ _ _ _ (by omega)).trans HB2.out.g2)
    · refine step_load_row rfl 28 _ rfl (w1.heap.size + 1) (by simp [Act.eval]) 28 #[.int .i64 c, .int .i64 i] (0, 0) _ HX.out.2 Tryd.underlying28 rfl sizeF ?_
      refine hK _ _ ?_
      clear hK K
      refine wpAny_ready (rs := [0]) (by kernel_rfl) (by simp) ?_
      refine (AllReady.cons rfl (fun K hK => ?_) AllReady.nil)
      · refine step_load_row rfl 25 _ rfl w1.heap.size (by simp [Act.eval, Act.put]) 25 cs' (0, 0) _ HX.out.1 Tryd.underlying25 rfl (by rw [HS2.out]; exact sizeS) ?_
        refine hK _ _ ?_
        clear hK K
        refine wpAny_ready (rs := [2]) (by kernel_rfl) (by simp) ?_
        refine (AllReady.cons rfl (fun K hK => ?_) AllReady.nil)
        · refine step_store_row rfl 25 _ _ rfl (w.heap.size + 1) cs' (by simp [Act.eval, Act.put]) (by simp [Act.eval, Act.put]) 25 zeroDk HB2.out.g1 (by rw [HS2.out]; exact sizeS) (by rw [HS2.out]; rfl) (dk_one HI2.out.st) ?_
          refine hK _ _ ?_
          clear hK K
          refine wpAny_ready (rs := [3]) (by kernel_rfl) (by simp) ?_
          refine (AllReady.cons rfl (fun K hK => ?_) AllReady.nil)
          · refine step_store_row rfl 28 _ _ rfl (w.heap.size + 2) #[.int .i64 c, .int .i64 i] (by simp [Act.eval, Act.put]) (by simp [Act.eval, Act.put]) 28 _ ((setRow_other _ _ _ _ (by omega)).trans HB2.out.g2) sizeF rfl (by kernel_rfl) ?_
            refine hK _ _ ?_
            clear hK K
            refine wpAny_done (by kernel_rfl) ?_ _
            go_wp2_with fail
            refine bodyPost_ret (results_two rfl _ _ (w.heap.size + 1) (w.heap.size + 2) 25 28 cs' #[.int .i64 c, .int .i64 i] (0, 0) (0, 0) _ _ rfl ?_ Tryd.underlying25 rfl (by rw [HS2.out]; exact sizeS) rfl ?_ Tryd.underlying28 rfl sizeF) rfl (step_fin HI2.out HB2.out HBG.out.lt HB1.out.lt)
            · rw [setRow_other _ _ _ _ (by omega)]; exact setRow_heap _ _ _ _ _ _ HB2.out.g1
            · exact setRow_heap _ _ _ _ _ _ ((setRow_other _ _ _ _ (by omega)).trans HB2.out.g2)
end Go.Proofs.YtbaahbpianingaaDoor
namespace Go.Proofs.YtbaahbpianingaaDoor
open Go Go.Proofs Go.RowKit
open Acc (Dk red five)
set_option maxHeartbeats 3200000
set_option maxRecDepth 100000
def startG (l m : List Int) : Dk × (Int × Int) :=
  if faultW l = (0, 0) then (if 1000 < m.length then (dk0, (3, -2)) else ({ dk0 with words := l ++ List.replicate (100 - l.length) 0, input := m }, (0, 0))) else (dk0, faultW l)
/-- The two blocks of the results. -/
structure Two (w wx : World) : Prop where
  g0 : wx.heap[w.heap.size]? = some (.cells zeroDk 25 (0, 0))
  g1 : wx.heap[w.heap.size + 1]? = some (.cells #[.int .i64 0, .int .i64 0] 28 (0, 0))
  x : Ext w wx
theorem Two.ext {w wx w1 : World} (h : Two w wx) (e : Ext wx w1) : Two w w1 := ⟨ext_heap e h.g0, ext_heap e h.g1, h.x.trans e⟩
theorem Two.lt {w wx : World} (h : Two w wx) : w.heap.size + 1 < wx.heap.size := (Array.getElem?_eq_some_iff.1 h.g1).1
theorem two_mk (w : World) : Two w ((w.alloc (.cells zeroDk 25)).alloc (.cells #[.int .i64 0, .int .i64 0] 28)) :=
  ⟨heap_alloc2_old w _ _, heap_alloc2_new w _ _, ((Ext.refl w).alloc _).alloc _⟩
theorem two_fin {w W : World} {c i : Int} (h : Two w W) : SRet w (dk0, (c, i)) (.returned (.tuple #[.agg zeroDk, .agg #[.int .i64 c, .int .i64 i]])) ((W.setRow w.heap.size zeroDk).setRow (w.heap.size + 1) #[.int .i64 c, .int .i64 i]) :=
  ⟨zeroDk, rfl, fun F _ => zero_is F, (h.x.setRow (by omega) _).setRow (by omega) _⟩
theorem faultW_ne {l : List Int} {c i : Int} (h : faultW l = (c, i)) (hn : faultW l ≠ (0, 0)) : (c == 0) = false := by
  unfold faultW at h hn
  split at h
  · cases h; rfl
  · rename_i h1
    rw [if_neg h1] at hn
    split at h
    · cases h; rfl
    · rename_i h2; rw [if_neg h2] at hn; exact absurd rfl hn
theorem start_bad (A B : Option Addr) (l m : List Int) (c' d' : Nat) (w : World) (hl : l.length ≤ maxLen) (h1 : Sl w .i64 A l) (hf : faultW l ≠ (0, 0)) :
    Calls Tryd.prog 12 #[.slice A l.length c', .slice B m.length d'] w (SRet w (startG l m)) := by
  have he : startG l m = (dk0, faultW l) := by unfold startG; rw [if_neg hf]
  rw [he]
  have HC := Lib.hid (fun (W : World) (hx : Ext w W) => checkWords_c A l c' W hl (h1.ext hx))
  obtain ⟨p, hp⟩ : ∃ p, faultW l = p := ⟨_, rfl⟩
  obtain ⟨c, i⟩ := p
  have q1 := faultW_ne hp hf
  have q2 : ¬ c = 0 := by simpa using q1
  rw [hp] at HC ⊢
  clear hp he hf h1
  go_enter Tryd.func12, Tryd.ntmps12
  go_upto_region 0 with (fail)
  go_cut [4, 5] (fun s4 s5 wx => s4 = .pointer (some ⟨w.heap.size, 0, none⟩) ∧ s5 = .pointer (some ⟨w.heap.size + 1, 0, none⟩) ∧ Two w wx)
  case first =>
    go_wp2_with (refine wpList_allocS rfl rfl ?_)
    go_meet
    exact ⟨rfl, rfl, two_mk w⟩
  case rest =>
    obtain ⟨rfl, rfl, htw⟩ := hcut
    have HT := Lib.hid htw
    clear htw
    go_wp2_with fail
    refine (HC.out wc HT.out.x).mono ?_
    rintro e w1 ⟨rfl, hx1⟩
    have HT1 := Lib.hid (HT.out.ext hx1)
    have hlt1 := HT1.out.lt
    clear hx1
    simp only [fAgg]
    go_upto_region 3 with (fail)
    have HT2 := Lib.hid ((HT1.out.ext ((Ext.refl w1).alloc (.cells #[.int .i64 c, .int .i64 i] 28))).ext ((Ext.refl _).drew))
    have HF0 := Lib.hid (heap_alloc_new w1 (.cells #[.int .i64 c, .int .i64 i] 28))
    refine wp_region_any (by kernel_rfl) ?_
    refine wpAny_take (i := 0) (v := .agg zeroDk) rfl (by kernel_rfl) (by kernel_rfl) (by kernel_rfl) (fun _ _ _ h => h) (Or.inl ⟨by rfl, fun w => ?_⟩) ?_
    · kernel_rfl
    refine wpAny_ready (rs := [1, 2]) (by kernel_rfl) (by simp) ?_
    refine (AllReady.cons rfl (fun K hK => ?_) (AllReady.cons rfl (fun K hK => ?_) AllReady.nil))
    · refine step_load_row rfl 28 _ rfl w1.heap.size (by first | (simp [Act.eval]; done) | simp [Act.eval, Act.put]) 28 #[.int .i64 c, .int .i64 i] (0, 0) _ (by first | exact HF0.out | exact (setRow_other _ _ _ _ (by omega)).trans HF0.out) Tryd.underlying28 rfl sizeF ?_
      refine hK _ _ ?_
      clear hK K
      refine wpAny_ready (rs := [2]) (by kernel_rfl) (by simp) ?_
      refine (AllReady.cons rfl (fun K hK => ?_) AllReady.nil)
      · refine step_store_row rfl 25 _ _ rfl w.heap.size zeroDk (by first | (simp [Act.eval]; done) | simp [Act.eval, Act.put]) (by first | (simp [Act.eval]; done) | simp [Act.eval, Act.put]) 25 zeroDk HT2.out.g0 sizeS rfl zero_one ?_
        refine hK _ _ ?_
        clear hK K
        refine wpAny_ready (rs := [3]) (by kernel_rfl) (by simp) ?_
        refine (AllReady.cons rfl (fun K hK => ?_) AllReady.nil)
        · refine step_store_row rfl 28 _ _ rfl (w.heap.size + 1) #[.int .i64 c, .int .i64 i] (by first | (simp [Act.eval]; done) | simp [Act.eval, Act.put]) (by first | (simp [Act.eval]; done) | simp [Act.eval, Act.put]) 28 _ ((setRow_other _ _ _ _ (by omega)).trans HT2.out.g1) sizeF rfl (by kernel_rfl) ?_
          refine hK _ _ ?_
          clear hK K
          refine wpAny_done (by kernel_rfl) ?_ _
          go_wp2_with fail
          refine bodyPost_ret (results_two rfl _ _ w.heap.size (w.heap.size + 1) 25 28 zeroDk #[.int .i64 c, .int .i64 i] (0, 0) (0, 0) _ _ rfl ?_ Tryd.underlying25 rfl sizeS rfl ?_ Tryd.underlying28 rfl sizeF) rfl (two_fin HT2.out)
          · rw [setRow_other _ _ _ _ (by omega)]; exact setRow_heap _ _ _ _ _ _ HT2.out.g0
          · exact setRow_heap _ _ _ _ _ _ ((setRow_other _ _ _ _ (by omega)).trans HT2.out.g1)
    · refine step_store_row rfl 25 _ _ rfl w.heap.size zeroDk (by first | (simp [Act.eval]; done) | simp [Act.eval, Act.put]) (by first | (simp [Act.eval]; done) | simp [Act.eval, Act.put]) 25 zeroDk HT2.out.g0 sizeS rfl zero_one ?_
      refine hK _ _ ?_
      clear hK K
      refine wpAny_ready (rs := [1]) (by kernel_rfl) (by simp) ?_
      refine (AllReady.cons rfl (fun K hK => ?_) AllReady.nil)
      · refine step_load_row rfl 28 _ rfl w1.heap.size (by first | (simp [Act.eval]; done) | simp [Act.eval, Act.put]) 28 #[.int .i64 c, .int .i64 i] (0, 0) _ (by first | exact HF0.out | exact (setRow_other _ _ _ _ (by omega)).trans HF0.out) Tryd.underlying28 rfl sizeF ?_
        refine hK _ _ ?_
        clear hK K
        refine wpAny_ready (rs := [3]) (by kernel_rfl) (by simp) ?_
        refine (AllReady.cons rfl (fun K hK => ?_) AllReady.nil)
        · refine step_store_row rfl 28 _ _ rfl (w.heap.size + 1) #[.int .i64 c, .int .i64 i] (by first | (simp [Act.eval]; done) | simp [Act.eval, Act.put]) (by first | (simp [Act.eval]; done) | simp [Act.eval, Act.put]) 28 _ ((setRow_other _ _ _ _ (by omega)).trans HT2.out.g1) sizeF rfl (by kernel_rfl) ?_
          refine hK _ _ ?_
          clear hK K
          refine wpAny_done (by kernel_rfl) ?_ _
          go_wp2_with fail
          refine bodyPost_ret (results_two rfl _ _ w.heap.size (w.heap.size + 1) 25 28 zeroDk #[.int .i64 c, .int .i64 i] (0, 0) (0, 0) _ _ rfl ?_ Tryd.underlying25 rfl sizeS rfl ?_ Tryd.underlying28 rfl sizeF) rfl (two_fin HT2.out)
          · rw [setRow_other _ _ _ _ (by omega)]; exact setRow_heap _ _ _ _ _ _ HT2.out.g0
          · exact setRow_heap _ _ _ _ _ _ ((setRow_other _ _ _ _ (by omega)).trans HT2.out.g1)
end Go.Proofs.YtbaahbpianingaaDoor
