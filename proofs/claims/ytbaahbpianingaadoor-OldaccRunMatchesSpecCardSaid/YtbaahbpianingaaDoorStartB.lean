import Derived.Test.YtbaahbpianingaaDoorStartA
namespace Go.Proofs.YtbaahbpianingaaDoor
open Go Go.Proofs Go.RowKit
open Acc (Dk red five)
set_option maxHeartbeats 3200000
set_option maxRecDepth 100000
theorem start_long (A B : Option Addr) (l m : List Int) (c' d' : Nat) (w : World) (hl : l.length ≤ maxLen) (h1 : Sl w .i64 A l) (hf : faultW l = (0, 0)) (hm : 1000 < m.length) (hm2 : m.length ≤ maxLen) :
    Calls Tryd.prog 12 #[.slice A l.length c', .slice B m.length d'] w (SRet w (startG l m)) := by
  have he : startG l m = (dk0, (3, -2)) := by unfold startG; rw [if_pos hf, if_pos hm]
  rw [he]
  have HC := Lib.hid (fun (W : World) (hx : Ext w W) => hf ▸ checkWords_c A l c' W hl (h1.ext hx))
  unfold maxLen at hm2
  clear he hf h1
  go_enter Tryd.func12, Tryd.ntmps12
  go_upto_region 0 with (fail)
  go_cut [4, 5] (fun s4 s5 wx => s4 = .pointer (some ⟨w.heap.size, 0, none⟩) ∧ s5 = .pointer (some ⟨w.heap.size + 1, 0, none⟩) ∧ Two w wx)
  case first =>
    go_wp2_with (refine wpList_allocS rfl rfl ?_)
    go_meet
    exact ⟨rfl, rfl, two_mk w⟩
  case rest =>
    obtain ⟨rfl, rfl, htw⟩ := hcut
    have HT := Lib.hid htw
    clear htw
    go_wp2_with fail
    refine (HC.out wc HT.out.x).mono ?_
    rintro e w1 ⟨rfl, hx1⟩
    have HT1 := Lib.hid (HT.out.ext hx1)
    have hlt1 := HT1.out.lt
    clear hx1
    simp only [fAgg]
    have HT2 := Lib.hid (HT1.out.ext ((Ext.refl w1).alloc (.cells #[.int .i64 0, .int .i64 0] 28)))
    have HT3 := Lib.hid (HT2.out.ext ((Ext.refl _).alloc (.cells #[.int .i64 3, .int .i64 (-2)] 28)))
    have H30 := Lib.hid ((setRow_other ((w1.alloc (.cells #[.int .i64 0, .int .i64 0] 28)).alloc (.cells #[.int .i64 3, .int .i64 (-2)] 28)) w.heap.size (w.heap.size + 1) zeroDk (by omega)).trans HT3.out.g1)
    go_wp2_with (first | refine wpList_buildS rfl rfl ?_ | (go_at_call 40; refine (fault_c _ _ _).mono ?_; rintro e w' ⟨rfl, rfl⟩) | refine wpList_store_row rfl 25 _ _ rfl w.heap.size zeroDk rfl rfl 25 zeroDk HT3.out.g0 sizeS rfl zero_one ?_ | refine wpList_store_row rfl 28 _ _ rfl (w.heap.size + 1) #[.int .i64 3, .int .i64 (-2)] rfl rfl 28 _ H30.out sizeF rfl (by kernel_rfl) ?_)
    refine bodyPost_ret (results_two rfl _ _ w.heap.size (w.heap.size + 1) 25 28 zeroDk #[.int .i64 3, .int .i64 (-2)] (0, 0) (0, 0) _ _ rfl ?_ Tryd.underlying25 rfl sizeS rfl ?_ Tryd.underlying28 rfl sizeF) rfl (two_fin HT3.out)
    · rw [setRow_other _ _ _ _ (by omega)]; exact setRow_heap _ _ _ _ _ _ HT3.out.g0
    · exact setRow_heap _ _ _ _ _ _ H30.out
def startC0 (A : Option Addr) (n c : Nat) : Array Value := zeroDk.setIfInBounds 105 (.slice A n c)
theorem run_build_start (A : Option Addr) (n c : Nat) (w : World) : (Instr.build 25 #[(6, .slice A n c)]).run Tryd.prog w = .ok (.agg (startC0 A n c)) w := by kernel_rfl
theorem wpList_build_start {w : World} {ops : Array Oper} {rest : List Oper} {o : Oper} {a : Act} {Q : Exit → Act → World → Prop} (hgd : o.guard = none) (x : Operand) (ho : o.op = .build 25 #[(6, x)]) (A : Option Addr) (n c : Nat) (hx : a.eval x = .slice A n c)
    (h : wpList Tryd.prog ops Q rest (a.put o.dst (.agg (startC0 A n c))) w) : wpList Tryd.prog ops Q (o :: rest) a w := by
  refine wpList_plain hgd fun K hK => ?_
  unfold Oper.wp execOp
  simp only [ho, List.map_toArray, List.map_cons, List.map_nil, hx, Sem.run_bind, run_build_start, Sem.run_pure, Result.andThen_ok]
  exact hK _ _ h
theorem start_one (A : Option Addr) (n c : Nat) : (startC0 A n c).all (·.oneCell') = true := by kernel_rfl
theorem start_size (A : Option Addr) (n c : Nat) : (startC0 A n c).size = 108 := by kernel_rfl
theorem start_len (A : Option Addr) (n c : Nat) : (startC0 A n c).toList.length = 108 := by rw [Array.length_toList]; exact start_size A n c
/-- The cells of the state that Start returns. -/
def startC (A : Option Addr) (n c : Nat) (l : List Int) : Array Value := (splice (startC0 A n c).toList 0 (l.map (Value.int .i64))).toArray
theorem startC_size {A : Option Addr} {n c : Nat} {l : List Int} (hl : l.length ≤ 100) : (startC A n c l).size = 108 := by
  have h0 : (startC0 A n c).toList.length = 108 := by rw [Array.length_toList]; exact start_size A n c
  unfold startC
  rw [List.size_toArray, length_splice _ _ _ (by rw [h0, List.length_map]; omega)]
  exact h0
theorem startC_get {A : Option Addr} {n c : Nat} {l : List Int} (i : Nat) : (startC A n c l)[i]? = if i < l.length then (l[i]?).map (Value.int .i64) else (startC0 A n c)[i]? := by
  unfold startC splice
  rw [List.getElem?_toArray, List.take_zero, List.nil_append, Nat.zero_add, List.length_map]
  by_cases h : i < l.length
  · rw [if_pos h, List.getElem?_append_left (by simpa using h), List.getElem?_map]
  · rw [if_neg h, List.getElem?_append_right (by simpa using h), List.getElem?_drop, List.length_map]
    rw [show l.length + (i - l.length) = i by omega, Array.getElem?_toList]
theorem startC0_get {A : Option Addr} {n c : Nat} (i : Nat) (h : i ≠ 105) : (startC0 A n c)[i]? = zeroDk[i]? := by
  unfold startC0
  rw [Array.getElem?_setIfInBounds_ne (by omega)]
theorem start_is {F : World} {l m : List Int} {A : Option Addr} {c : Nat} (hl : l.length ≤ 100) (hw : ∀ x ∈ l, five x = true) (hm : Byt m) (h1 : SlAt F .u8 (some (.slice A m.length c)) m) : DkIs F (startC A m.length c l) { dk0 with words := l ++ List.replicate (100 - l.length) 0, input := m } := by
  have z := zero_is F
  have key : ∀ i, 100 ≤ i → i ≠ 105 → (startC A m.length c l)[i]? = zeroDk[i]? := fun i h0 h5 => by
    rw [startC_get, if_neg (by omega), startC0_get i h5]
  refine ⟨startC_size hl, ?_, ?_, ?_, ?_, ?_, ?_, ?_, ?_, ?_, ⟨?_, ?_, z.wf.at_, z.wf.a, z.wf.q, z.wf.x, hm, z.wf.output, z.wf.stop⟩⟩
  · intro i hi
    rw [startC_get]
    show _ = some (Value.int .i64 ((l ++ List.replicate (100 - l.length) 0)[i]?.getD 0))
    by_cases h : i < l.length
    · rw [if_pos h, List.getElem?_append_left h, List.getElem?_eq_getElem h]; rfl
    · rw [if_neg h, startC0_get i (by omega), z.words i hi, List.getElem?_append_right (by omega), List.getElem?_replicate, if_pos (by omega)]
      show some (Value.int .i64 ((List.replicate 100 (0 : Int))[i]?.getD 0)) = _
      rw [List.getElem?_replicate, if_pos hi]
  · rw [key 100 (by omega) (by omega)]; exact z.at_
  · rw [key 101 (by omega) (by omega)]; exact z.a
  · rw [key 102 (by omega) (by omega)]; exact z.q
  · rw [key 103 (by omega) (by omega)]; exact z.x
  · rw [key 104 (by omega) (by omega)]; exact z.ov
  · rw [startC_get, if_neg (by omega)]
    unfold startC0
    rw [Array.getElem?_setIfInBounds_self_of_lt (by rw [z.size]; omega)]
    exact h1
  · rw [key 106 (by omega) (by omega)]; exact z.output
  · rw [key 107 (by omega) (by omega)]; exact z.stop
  · show (l ++ List.replicate (100 - l.length) 0).length = 100
    simp; omega
  · intro n hn
    rcases List.mem_append.1 hn with q | q
    · exact five_i64 (hw n q)
    · rw [List.eq_of_mem_replicate q]; exact ⟨by decide, by decide⟩
theorem own_at {w F : World} {B : Nat} {e : TypeId} {k : IntKind} {v : Value} {l : List Int} (hw : w.ownsRow B e 1 v l.length (l.map (Value.int k))) (hk : ∀ g, v.ownBlock = some g → F.heap[g]? = w.heap[g]?) : SlAt F k (some v) l := by
  obtain ⟨A, c, hv, h2, h3, h4, h5⟩ := own_sl (own_keep (w' := F) hw hk)
  exact ⟨A, c, by rw [hv], h2, h3, h4, h5⟩
/-- The state that Start makes, ahead of the copy. -/
structure Made (w wx : World) (m : List Int) (g : Nat) (A : Option Addr) (c : Nat) : Prop where
  two : Two w wx
  blk : wx.heap[g]? = some (.cells (startC0 A m.length c) 25 (0, 0))
  lt : w.heap.size + 1 < g
  own : wx.ownsRow w.heap.size 5 1 (.slice A m.length c) m.length (m.map (Value.int .u8))
  below : ∀ b, (Value.slice A m.length c).ownBlock = some b → b < g
theorem made_mk {w W2 w3 : World} {m : List Int} {A : Option Addr} {c : Nat} (ht : Two w W2) (hx : Ext W2 w3) (ho : w3.ownsRow W2.heap.size 5 1 (.slice A m.length c) m.length (m.map (Value.int .u8))) :
    Made w (((w3.alloc (.cells zeroDk 25))).setRow w3.heap.size (startC0 A m.length c)) m w3.heap.size A c := by
  have h1 := ht.lt
  have h2 := hx.size
  have h3 := (ht.ext hx).ext ((Ext.refl w3).alloc (.cells zeroDk 25))
  have hx3 : Ext w3 ((w3.alloc (.cells zeroDk 25)).setRow w3.heap.size (startC0 A m.length c)) := ((Ext.refl w3).alloc _).setRow (Nat.le_refl _) _
  refine ⟨(ht.ext hx).ext hx3, setRow_heap _ _ _ _ _ _ (heap_alloc_new w3 _), by omega, own_base (own_ext ho hx3) (by omega), fun b hb => (own_lt ho hb).2⟩
theorem start_fin {w wc W : World} {l m : List Int} {g : Nat} {A : Option Addr} {c : Nat} (hl : l.length ≤ 100) (hw : ∀ x ∈ l, five x = true) (hm : Byt m) (h : Made w wc m g A c) (hb : Below g wc W) :
    SRet w ({ dk0 with words := l ++ List.replicate (100 - l.length) 0, input := m }, (0, 0)) (.returned (.tuple #[.agg (startC A m.length c l), .agg #[.int .i64 0, .int .i64 0]])) ((W.setRow w.heap.size (startC A m.length c l)).setRow (w.heap.size + 1) #[.int .i64 0, .int .i64 0]) := by
  have hlt := h.lt
  refine ⟨_, rfl, fun F hF => start_is hl hw hm (own_at h.own fun b hbo => ?_), Ext.setRow (Ext.setRow (show Ext w W from Below.trans h.two.x (Below.mono hb (by omega))) (by omega) _) (by omega) _⟩
  have hb1 := h.below b hbo
  have hb2 := (own_lt h.own hbo).1
  have hbs := (own_lt h.own hbo).2
  have hb3 : b ≠ w.heap.size := fun q => own_ne h.own h.two.g0 (by decide) (by rw [hbo, q])
  have hb4 : b ≠ w.heap.size + 1 := fun q => own_ne h.own h.two.g1 (by decide) (by rw [hbo, q])
  rw [hF b hb2 (by have := hb.size; simp [World.setRow]; omega), setRow_other _ _ _ _ hb4, setRow_other _ _ _ _ hb3]
  exact hb.block b hb1
theorem start_good (A B : Option Addr) (l m : List Int) (c' d' : Nat) (w : World) (hl : l.length ≤ maxLen) (h1 : Sl w .i64 A l) (hA : A = none → c' = 0) (hf : faultW l = (0, 0)) (hm : ¬ 1000 < m.length) (bm : Byt m) (h2 : Sl w .u8 B m) (hB : B = none → d' = 0) :
    Calls Tryd.prog 12 #[.slice A l.length c', .slice B m.length d'] w (SRet w (startG l m)) := by
  have he : startG l m = ({ dk0 with words := l ++ List.replicate (100 - l.length) 0, input := m }, (0, 0)) := by unfold startG; rw [if_pos hf, if_neg hm]
  rw [he]
  have HC := Lib.hid (fun (W : World) (hx : Ext w W) => hf ▸ checkWords_c A l c' W hl (h1.ext hx))
  have HCL := Lib.hid (fun (W : World) (hx : Ext w W) => Clone8_c B m d' W (by omega) (h2.ext hx) hB)
  have HH1 := Lib.hid h1
  have HHA := Lib.hid hA
  have hl100 : l.length ≤ 100 ∧ ∀ x ∈ l, five x = true := by
    unfold faultW at hf
    split at hf
    · cases hf
    · split at hf
      · cases hf
      · exact ⟨by omega, badI_fine (by omega)⟩
  have HL := Lib.hid hl100.1
  have HW5 := Lib.hid hl100.2
  have HBY := Lib.hid bm
  have hln := hl100.1
  clear he hf h1 h2 hl100 bm hA hB
  go_enter Tryd.func12, Tryd.ntmps12
  go_upto_region 0 with (fail)
  go_cut [4, 5] (fun s4 s5 wx => s4 = .pointer (some ⟨w.heap.size, 0, none⟩) ∧ s5 = .pointer (some ⟨w.heap.size + 1, 0, none⟩) ∧ Two w wx)
  case first =>
    go_wp2_with (refine wpList_allocS rfl rfl ?_)
    go_meet
    exact ⟨rfl, rfl, two_mk w⟩
  case rest =>
    obtain ⟨rfl, rfl, htw⟩ := hcut
    have HT := Lib.hid htw
    clear htw
    go_wp2_with fail
    refine (HC.out wc HT.out.x).mono ?_
    rintro e w1 ⟨rfl, hx1⟩
    have HT1 := Lib.hid (HT.out.ext hx1)
    have hlt1 := HT1.out.lt
    clear hx1
    simp only [fAgg]
    have HT2 := Lib.hid (HT1.out.ext ((Ext.refl w1).alloc (.cells #[.int .i64 0, .int .i64 0] 28)))
    go_upto_region 6 with (fail)
    go_cut [7] (fun s7 wx => ∃ g A2 c2, s7 = .pointer (some ⟨g, 0, none⟩) ∧ Made w wx m g A2 c2)
    case first =>
      go_wp2_with fail
      refine (HCL.out _ HT2.out.x).mono ?_
      rintro e w3 ⟨v, rfl, ho, hx3⟩
      obtain ⟨A2, c2, rfl, -⟩ := own_sl ho
      have HMK := Lib.hid (made_mk HT2.out hx3 ho)
      have HA3 := Lib.hid (heap_alloc_new w3 (.cells zeroDk 25))
      clear ho hx3
      go_wp2_with (first | refine wpList_build_start rfl _ rfl A2 m.length c2 rfl ?_ | refine wpList_allocS rfl rfl ?_ | refine wpList_store_row rfl 25 _ _ rfl w3.heap.size (startC0 A2 m.length c2) rfl rfl 25 zeroDk HA3.out (by rw [start_size]; exact sizeS) (by rw [start_size]; rfl) (start_one _ _ _) ?_)
      go_meet
      exact ⟨_, A2, c2, rfl, HMK.out⟩
    case rest =>
      obtain ⟨g, A2, c2, rfl, hmd⟩ := hcut
      have HMD := Lib.hid hmd
      have HS1 := Lib.hid (HH1.out.ext hmd.two.x)
      have hltg := hmd.lt
      have hgl : g < wc.heap.size := (Array.getElem?_eq_some_iff.1 hmd.blk).1
      have HSZ := Lib.hid (startC_size (A := A2) (n := m.length) (c := c2) HL.out)
      have hI := infoI
      have HIS : Hid ((Tryd.prog.info? 3).map (·.size) = some 1) := Lib.hid (by obtain ⟨i, hi, _, h2, _⟩ := info_parts infoI; rw [hi]; simp [h2])
      clear hmd hI
      have HPOS : Hid (0 < (l.map (Value.int .i64)).length → (some (⟨g, 0, none⟩ : Addr)) = some ⟨g, 0, none⟩ ∧ ∃ ad, A = some ad ∧ ∀ (j : Nat) v, (l.map (Value.int .i64))[j]? = some v → wc.cell? (ad.add j) = some v) := Lib.hid (by
        intro hpos
        refine ⟨rfl, ?_⟩
        have hl0 : 0 < l.length := by simpa using hpos
        obtain ⟨b, o, hA2, _⟩ := HS1.out.at_ hl0
        refine ⟨_, hA2, fun j v hv => ?_⟩
        obtain ⟨a, ha, hc⟩ := HS1.out j v hv
        rw [hA2] at ha
        cases ha
        exact hc)
      have HFIT : Hid (0 + (l.map (Value.int .i64)).length ≤ (startC0 A2 m.length c2).toList.length) := Lib.hid (by rw [start_len, List.length_map]; omega)
      have HMIN : Hid ((l.map (Value.int .i64)).length = Nat.min l.length 100) := Lib.hid (by rw [List.length_map]; exact (Nat.min_eq_left hln).symm)
      have HBK : Hid (wc.heap[g]? = some (.cells (startC0 A2 m.length c2).toList.toArray 25 (0, 0))) := Lib.hid (by rw [Array.toArray_toList]; exact HMD.out.blk)
      go_wp2_with (with_reducible refine wpList_copy_splice rfl (.tmp 24) (.tmp 25) 26 26 rfl 3 Tryd.underlying26 HIS.out (some ⟨g, 0, none⟩) A 100 100 l.length c' rfl rfl g 0 (startC0 A2 m.length c2).toList 25 HBK.out (l.map (Value.int .i64)) HMIN.out HPOS.out HFIT.out ints_one g wc (Below.refl _ _) (Nat.le_refl _) ?_)
      intro w9 hg9 hb9
      have HG : Hid (w9.heap[g]? = some (.cells (startC A2 m.length c2 l) 25 (0, 0))) := hg9
      have HB9 := Lib.hid hb9
      have HT7 := Lib.hid (Two.mk (w := w) (wx := w9) ((hb9.block _ (by omega)).trans HMD.out.two.g0) ((hb9.block _ (by omega)).trans HMD.out.two.g1) (Below.trans HMD.out.two.x (Below.mono hb9 (by omega))))
      have HO : Hid ((startC A2 m.length c2 l).all (·.oneCell') = true) := Lib.hid (dk_one (start_is (F := w9) HL.out HW5.out HBY.out (own_at HMD.out.own fun b hb => hb9.block b (HMD.out.below b hb))))
      have hlt9 := hb9.size
      clear hg9 hb9
      have H31 := Lib.hid ((setRow_other w9 w.heap.size (w.heap.size + 1) (startC A2 m.length c2 l) (by omega)).trans HT7.out.g1)
      go_wp2_with (first | refine wpList_load_row rfl 25 _ rfl g rfl 25 (startC A2 m.length c2 l) (0, 0) _ HG.out Tryd.underlying25 rfl (by rw [HSZ.out]; exact sizeS) ?_ | refine wpList_store_row rfl 25 _ _ rfl w.heap.size (startC A2 m.length c2 l) rfl rfl 25 zeroDk HT7.out.g0 (by rw [HSZ.out]; exact sizeS) (by rw [HSZ.out]; rfl) HO.out ?_ | refine wpList_store_row rfl 28 _ _ rfl (w.heap.size + 1) #[.int .i64 0, .int .i64 0] rfl rfl 28 _ H31.out sizeF rfl (by kernel_rfl) ?_)
      refine bodyPost_ret (results_two rfl _ _ w.heap.size (w.heap.size + 1) 25 28 (startC A2 m.length c2 l) #[.int .i64 0, .int .i64 0] (0, 0) (0, 0) _ _ rfl ?_ Tryd.underlying25 rfl (by rw [HSZ.out]; exact sizeS) rfl ?_ Tryd.underlying28 rfl sizeF) rfl (start_fin HL.out HW5.out HBY.out HMD.out HB9.out)
      · rw [setRow_other _ _ _ _ (by omega)]; exact setRow_heap _ _ _ _ _ _ HT7.out.g0
      · exact setRow_heap _ _ _ _ _ _ H31.out
theorem start_all (A B : Option Addr) (l m : List Int) (c' d' : Nat) (w : World) (hl : l.length ≤ maxLen) (hm : m.length ≤ maxLen) (h1 : Sl w .i64 A l) (hA : A = none → c' = 0) (bm : Byt m) (h2 : Sl w .u8 B m) (hB : B = none → d' = 0) :
    Calls Tryd.prog 12 #[.slice A l.length c', .slice B m.length d'] w (SRet w (startG l m)) := by
  by_cases hf : faultW l = (0, 0)
  · by_cases h : 1000 < m.length
    · exact start_long A B l m c' d' w hl h1 hf h hm
    · exact start_good A B l m c' d' w hl h1 hA hf h bm h2 hB
  · exact start_bad A B l m c' d' w hl h1 hf
end Go.Proofs.YtbaahbpianingaaDoor
