import Derived.Test.YtbaahbpianingaaDoorMg16
import Derived.Test.YtbaahbpianingaaDoorMg1
namespace Go.Proofs.YtbaahbpianingaaDoor
open Go Go.Proofs Go.RowKit
open Acc (Dk red five)
set_option maxHeartbeats 3200000
set_option maxRecDepth 100000
theorem start_long (A B : Option Addr) (l m : List Int) (c' d' : Nat) (w : World) (hl : l.length ≤ maxLen) (h1 : Sl w .i64 A l) (hf : faultW l = (0, 0)) (hm : 1000 < m.length) (hm2 : m.length ≤ maxLen) :
    Calls Tryd.prog 12 #[.slice A l.length c', .slice B m.length d'] w (SRet w (startG l m)) := by
  have he : startG l m = (dk0, (3, -2)) := by unfold startG; rw [if_pos hf, if_pos hm]
  rw [he]
  have HC := Lib.hid (fun (W : World) (hx : Ext w W) => hf ▸ checkWords_c A l c' W hl (h1.ext hx))
  unfold maxLen at hm2
  clear he hf h1
  go_enter Tryd.func12, Tryd.ntmps12
  go_upto_region 0 with (fail)
  go_cut [4, 5] (fun s4 s5 wx => s4 = .pointer (some ⟨w.heap.size, 0, none⟩) ∧ s5 = .pointer (some ⟨w.heap.size + 1, 0, none⟩) ∧ Two w wx)
  case first =>
    go_wp2_with (refine wpList_allocS rfl rfl ?_)
    go_meet
    exact ⟨rfl, rfl, two_mk w⟩
  case rest =>
    obtain ⟨rfl, rfl, htw⟩ := hcut
    have HT := Lib.hid htw
    clear htw
    go_wp2_with fail
    refine (HC.out wc HT.out.x).mono ?_
    rintro e w1 ⟨rfl, hx1⟩
    have HT1 := Lib.hid (HT.out.ext hx1)
    have hlt1 := HT1.out.lt
    clear hx1
    simp only [fAgg]
    have HT2 := Lib.hid (HT1.out.ext ((Ext.refl w1).alloc (.cells #[.int .i64 0, .int .i64 0] 28)))
    have HT3 := Lib.hid (HT2.out.ext ((Ext.refl _).alloc (.cells #[.int .i64 3, .int .i64 (-2)] 28)))
    have H30 := Lib.hid ((setRow_other ((w1.alloc (.cells #[.int .i64 0, .int .i64 0] 28)).alloc (.cells #[.int .i64 3, .int .i64 (-2)] 28)) w.heap.size (w.heap.size + 1) zeroDk (by omega)).trans HT3.out.g1)
    go_wp2_with (first | refine wpList_buildS rfl rfl ?_ | (go_at_call 40; refine (fault_c _ _ _).mono ?_; rintro e w' ⟨rfl, rfl⟩) | refine wpList_store_row rfl 25 _ _ rfl w.heap.size zeroDk rfl rfl 25 zeroDk HT3.out.g0 sizeS rfl zero_one ?_ | refine wpList_store_row rfl 28 _ _ rfl (w.heap.size + 1) #[.int .i64 3, .int .i64 (-2)] rfl rfl 28 _ H30.out sizeF rfl (by kernel_rfl) ?_)
    refine bodyPost_ret (results_two rfl _ _ w.heap.size (w.heap.size + 1) 25 28 zeroDk #[.int .i64 3, .int .i64 (-2)] (0, 0) (0, 0) _ _ rfl ?_ Tryd.underlying25 rfl sizeS rfl ?_ Tryd.underlying28 rfl sizeF) rfl (two_fin HT3.out)
    · rw [setRow_other _ _ _ _ (by omega)]; exact setRow_heap _ _ _ _ _ _ HT3.out.g0
    · exact setRow_heap _ _ _ _ _ _ H30.out
def startC0 (A : Option Addr) (n c : Nat) : Array Value := zeroDk.setIfInBounds 105 (.slice A n c)
theorem run_build_start (A : Option Addr) (n c : Nat) (w : World) : (Instr.build 25 #[(6, .slice A n c)]).run Tryd.prog w = .ok (.agg (startC0 A n c)) w := by kernel_rfl
theorem wpList_build_start {w : World} {ops : Array Oper} {rest : List Oper} {o : Oper} {a : Act} {Q : Exit → Act → World → Prop} (hgd : o.guard = none) (x : Operand) (ho : o.op = .build 25 #[(6, x)]) (A : Option Addr) (n c : Nat) (hx : a.eval x = .slice A n c)
    (h : wpList Tryd.prog ops Q rest (a.put o.dst (.agg (startC0 A n c))) w) : wpList Tryd.prog ops Q (o :: rest) a w := by
  refine wpList_plain hgd fun K hK => ?_
  unfold Oper.wp execOp
  simp only [ho, List.map_toArray, List.map_cons, List.map_nil, hx, Sem.run_bind, run_build_start, Sem.run_pure, Result.andThen_ok]
  exact hK _ _ h
theorem start_one (A : Option Addr) (n c : Nat) : (startC0 A n c).all (·.oneCell') = true := by kernel_rfl
theorem start_size (A : Option Addr) (n c : Nat) : (startC0 A n c).size = 108 := by kernel_rfl
theorem start_len (A : Option Addr) (n c : Nat) : (startC0 A n c).toList.length = 108 := by rw [Array.length_toList]; exact start_size A n c
/-- The cells of the state that Start returns. -/
def startC (A : Option Addr) (n c : Nat) (l : List Int) : Array Value := (splice (startC0 A n c).toList 0 (l.map (Value.int .i64))).toArray
theorem startC_size {A : Option Addr} {n c : Nat} {l : List Int} (hl : l.length ≤ 100) : (startC A n c l).size = 108 := by
  have h0 : (startC0 A n c).toList.length = 108 := by rw [Array.length_toList]; exact start_size A n c
  unfold startC
  rw [List.size_toArray, length_splice _ _ _ (by rw [h0, List.length_map]; omega)]
  exact h0
theorem startC_get {A : Option Addr} {n c : Nat} {l : List Int} (i : Nat) : (startC A n c l)[i]? = if i < l.length then (l[i]?).map (Value.int .i64) else (startC0 A n c)[i]? := by
  unfold startC splice
  rw [List.getElem?_toArray, List.take_zero, List.nil_append, Nat.zero_add, List.length_map]
  by_cases h : i < l.length
  · rw [if_pos h, List.getElem?_append_left (by simpa using h), List.getElem?_map]
  · rw [if_neg h, List.getElem?_append_right (by simpa using h), List.getElem?_drop, List.length_map]
    rw [show l.length + (i - l.length) = i by omega, Array.getElem?_toList]
theorem startC0_get {A : Option Addr} {n c : Nat} (i : Nat) (h : i ≠ 105) : (startC0 A n c)[i]? = zeroDk[i]? := by
  unfold startC0
  rw [Array.getElem?_setIfInBounds_ne (by omega)]
theorem start_is {F : World} {l m : List Int} {A : Option Addr} {c : Nat} (hl : l.length ≤ 100) (hw : ∀ x ∈ l, five x = true) (hm : Byt m) (h1 : SlAt F .u8 (some (.slice A m.length c)) m) : DkIs F (startC A m.length c l) { dk0 with words := l ++ List.replicate (100 - l.length) 0, input := m } := by
  have z := zero_is F
  have key : ∀ i, 100 ≤ i → i ≠ 105 → (startC A m.length c l)[i]? = zeroDk[i]? := fun i h0 h5 => by
    rw [startC_get, if_neg (by omega), startC0_get i h5]
  refine ⟨startC_size hl, ?_, ?_, ?_, ?_, ?_, ?_, ?_, ?_, ?_, ⟨?_, ?_, z.wf.at_, z.wf.a, z.wf.q, z.wf.x, hm, z.wf.output, z.wf.stop⟩⟩
  · intro i hi
    rw [startC_get]
    show _ = some (Value.int .i64 ((l ++ List.replicate (100 - l.length) 0)[i]?.getD 0))
    by_cases h : i < l.length
    · rw [if_pos h, List.getElem?_append_left h, List.getElem?_eq_getElem h]; rfl
    · rw [if_neg h, startC0_get i (by omega), z.words i hi, List.getElem?_append_right (by omega), List.getElem?_replicate, if_pos (by omega)]
      show some (Value.int .i64 ((List.replicate 100 (0 : Int))[i]?.getD 0)) = _
      rw [List.getElem?_replicate, if_pos hi]
  · rw [key 100 (by omega) (by omega)]; exact z.at_
  · rw [key 101 (by omega) (by omega)]; exact z.a
  · rw [key 102 (by omega) (by omega)]; exact z.q
  · rw [key 103 (by omega) (by omega)]; exact z.x
  · rw [key 104 (by omega) (by omega)]; exact z.ov
  · rw [startC_get, if_neg (by omega)]
    unfold startC0
    rw [Array.getElem?_setIfInBounds_self_of_lt (by rw [z.size]; omega)]
    exact h1
  · rw [key 106 (by omega) (by omega)]; exact z.output
  · rw [key 107 (by omega) (by omega)]; exact z.stop
  · show (l ++ List.replicate (100 - l.length) 0).length = 100
    simp; omega
  · intro n hn
    rcases List.mem_append.1 hn with q | q
    · exact five_i64 (hw n q)
    · rw [List.eq_of_mem_replicate q]; exact ⟨by decide, by decide⟩
theorem own_at {w F : World} {B : Nat} {e : TypeId} {k : IntKind} {v : Value} {l : List Int} (hw : w.ownsRow B e 1 v l.length (l.map (Value.int k))) (hk : ∀ g, v.ownBlock = some g → F.heap[g]? = w.heap[g]?) : SlAt F k (some v) l := by
  obtain ⟨A, c, hv, h2, h3, h4, h5⟩ := own_sl (own_keep (w' := F) hw hk)
  exact ⟨A, c, by rw [hv], h2, h3, h4, h5⟩
/-- The state that Start makes, ahead of the copy. -/
structure Made (w wx : World) (m : List Int) (g : Nat) (A : Option Addr) (c : Nat) : Prop where
  two : Two w wx
  blk : wx.heap[g]? = some (.cells (startC0 A m.length c) 25 (0, 0))
  lt : w.heap.size + 1 < g
  own : wx.ownsRow w.heap.size 5 1 (.slice A m.length c) m.length (m.map (Value.int .u8))
  below : ∀ b, (Value.slice A m.length c).ownBlock = some b → b < g
theorem made_mk {w W2 w3 : World} {m : List Int} {A : Option Addr} {c : Nat} (ht : Two w W2) (hx : Ext W2 w3) (ho : w3.ownsRow W2.heap.size 5 1 (.slice A m.length c) m.length (m.map (Value.int .u8))) :
    Made w (((w3.alloc (.cells zeroDk 25))).setRow w3.heap.size (startC0 A m.length c)) m w3.heap.size A c := by
  have h1 := ht.lt
  have h2 := hx.size
  have h3 := (ht.ext hx).ext ((Ext.refl w3).alloc (.cells zeroDk 25))
  have hx3 : Ext w3 ((w3.alloc (.cells zeroDk 25)).setRow w3.heap.size (startC0 A m.length c)) := ((Ext.refl w3).alloc _).setRow (Nat.le_refl _) _
  refine ⟨(ht.ext hx).ext hx3, setRow_heap _ _ _ _ _ _ (heap_alloc_new w3 _), by omega, own_base (own_ext ho hx3) (by omega), fun b hb => (own_lt ho hb).2⟩
theorem start_fin {w wc W : World} {l m : List Int} {g : Nat} {A : Option Addr} {c : Nat} (hl : l.length ≤ 100) (hw : ∀ x ∈ l, five x = true) (hm : Byt m) (h : Made w wc m g A c) (hb : Below g wc W) :
    SRet w ({ dk0 with words := l ++ List.replicate (100 - l.length) 0, input := m }, (0, 0)) (.returned (.tuple #[.agg (startC A m.length c l), .agg #[.int .i64 0, .int .i64 0]])) ((W.setRow w.heap.size (startC A m.length c l)).setRow (w.heap.size + 1) #[.int .i64 0, .int .i64 0]) := by
  have hlt := h.lt
  refine ⟨_, rfl, fun F hF => start_is hl hw hm (own_at h.own fun b hbo => ?_), Ext.setRow (Ext.setRow (show Ext w W from Below.trans h.two.x (Below.mono hb (by omega))) (by omega) _) (by omega) _⟩
  have hb1 := h.below b hbo
  have hb2 := (own_lt h.own hbo).1
  have hbs := (own_lt h.own hbo).2
  have hb3 : b ≠ w.heap.size := fun q => own_ne h.own h.two.g0 (by decide) (by rw [hbo, q])
  have hb4 : b ≠ w.heap.size + 1 := fun q => own_ne h.own h.two.g1 (by decide) (by rw [hbo, q])
  rw [hF b hb2 (by have := hb.size; simp [World.setRow]; omega), setRow_other _ _ _ _ hb4, setRow_other _ _ _ _ hb3]
  exact hb.block b hb1
theorem start_good (A B : Option Addr) (l m : List Int) (c' d' : Nat) (w : World) (hl : l.length ≤ maxLen) (h1 : Sl w .i64 A l) (hA : A = none → c' = 0) (hf : faultW l = (0, 0)) (hm : ¬ 1000 < m.length) (bm : Byt m) (h2 : Sl w .u8 B m) (hB : B = none → d' = 0) :
    Calls Tryd.prog 12 #[.slice A l.length c', .slice B m.length d'] w (SRet w (startG l m)) := by
  have he : startG l m = ({ dk0 with words := l ++ List.replicate (100 - l.length) 0, input := m }, (0, 0)) := by unfold startG; rw [if_pos hf, if_neg hm]
  rw [he]
  have HC := Lib.hid (fun (W : World) (hx : Ext w W) => hf ▸ checkWords_c A l c' W hl (h1.ext hx))
  have HCL := Lib.hid (fun (W : World) (hx : Ext w W) => Clone8_c B m d' W (by omega) (h2.ext hx) hB)
  have HH1 := Lib.hid h1
  have HHA := Lib.hid hA
  have hl100 : l.length ≤ 100 ∧ ∀ x ∈ l, five x = true := by
    unfold faultW at hf
    split at hf
    · cases hf
    · split at hf
      · cases hf
      · exact ⟨by omega, badI_fine (by omega)⟩
  have HL := Lib.hid hl100.1
  have HW5 := Lib.hid hl100.2
  have HBY := Lib.hid bm
  have hln := hl100.1
  clear he hf h1 h2 hl100 bm hA hB
  go_enter Tryd.func12, Tryd.ntmps12
  go_upto_region 0 with (fail)
  go_cut [4, 5] (fun s4 s5 wx => s4 = .pointer (some ⟨w.heap.size, 0, none⟩) ∧ s5 = .pointer (some ⟨w.heap.size + 1, 0, none⟩) ∧ Two w wx)
  case first =>
    go_wp2_with (refine wpList_allocS rfl rfl ?_)
    go_meet
    exact ⟨rfl, rfl, two_mk w⟩
  case rest =>
    obtain ⟨rfl, rfl, htw⟩ := hcut
    have HT := Lib.hid htw
    clear htw
    go_wp2_with fail
    refine (HC.out wc HT.out.x).mono ?_
    rintro e w1 ⟨rfl, hx1⟩
    have HT1 := Lib.hid (HT.out.ext hx1)
    have hlt1 := HT1.out.lt
    clear hx1
    simp only [fAgg]
    have HT2 := Lib.hid (HT1.out.ext ((Ext.refl w1).alloc (.cells #[.int .i64 0, .int .i64 0] 28)))
    go_upto_region 6 with (fail)
    go_cut [7] (fun s7 wx => ∃ g A2 c2, s7 = .pointer (some ⟨g, 0, none⟩) ∧ Made w wx m g A2 c2)
    case first =>
      go_wp2_with fail
      refine (HCL.out _ HT2.out.x).mono ?_
      rintro e w3 ⟨v, rfl, ho, hx3⟩
      obtain ⟨A2, c2, rfl, -⟩ := own_sl ho
      have HMK := Lib.hid (made_mk HT2.out hx3 ho)
      have HA3 := Lib.hid (heap_alloc_new w3 (.cells zeroDk 25))
      clear ho hx3
      go_wp2_with (first | refine wpList_build_start rfl _ rfl A2 m.length c2 rfl ?_ | refine wpList_allocS rfl rfl ?_ | refine wpList_store_row rfl 25 _ _ rfl w3.heap.size (startC0 A2 m.length c2) rfl rfl 25 zeroDk HA3.out (by rw [start_size]; exact sizeS) (by rw [start_size]; rfl) (start_one _ _ _) ?_)
      go_meet
      exact ⟨_, A2, c2, rfl, HMK.out⟩
    case rest =>
      obtain ⟨g, A2, c2, rfl, hmd⟩ := hcut
      have HMD := Lib.hid hmd
      have HS1 := Lib.hid (HH1.out.ext hmd.two.x)
      have hltg := hmd.lt
      have hgl : g < wc.heap.size := (Array.getElem?_eq_some_iff.1 hmd.blk).1
      have HSZ := Lib.hid (startC_size (A := A2) (n := m.length) (c := c2) HL.out)
      have hI := infoI
      have HIS : Hid ((Tryd.prog.info? 3).map (·.size) = some 1) := Lib.hid (by obtain ⟨i, hi, _, h2, _⟩ := info_parts infoI; rw [hi]; simp [h2])
      clear hmd hI
      have HPOS : Hid (0 < (l.map (Value.int .i64)).length → (some (⟨g, 0, none⟩ : Addr)) = some ⟨g, 0, none⟩ ∧ ∃ ad, A = some ad ∧ ∀ (j : Nat) v, (l.map (Value.int .i64))[j]? = some v → wc.cell? (ad.add j) = some v) := Lib.hid (by
        intro hpos
        refine ⟨rfl, ?_⟩
        have hl0 : 0 < l.length := by simpa using hpos
        obtain ⟨b, o, hA2, _⟩ := HS1.out.at_ hl0
        refine ⟨_, hA2, fun j v hv => ?_⟩
        obtain ⟨a, ha, hc⟩ := HS1.out j v hv
        rw [hA2] at ha
        cases ha
        exact hc)
      have HFIT : Hid (0 + (l.map (Value.int .i64)).length ≤ (startC0 A2 m.length c2).toList.length) := Lib.hid (by rw [start_len, List.length_map]; omega)
      have HMIN : Hid ((l.map (Value.int .i64)).length = Nat.min l.length 100) := Lib.hid (by rw [List.length_map]; exact (Nat.min_eq_left hln).symm)
      have HBK : Hid (wc.heap[g]? = some (.cells (startC0 A2 m.length c2).toList.toArray 25 (0, 0))) := Lib.hid (by rw [Array.toArray_toList]; exact HMD.out.blk)
      go_wp2_with (with_reducible refine wpList_copy_splice rfl (.tmp 24) (.tmp 25) 26 26 rfl 3 Tryd.underlying26 HIS.out (some ⟨g, 0, none⟩) A 100 100 l.length c' rfl rfl g 0 (startC0 A2 m.length c2).toList 25 HBK.out (l.map (Value.int .i64)) HMIN.out HPOS.out HFIT.out ints_one g wc (Below.refl _ _) (Nat.le_refl _) ?_)
      intro w9 hg9 hb9
      have HG : Hid (w9.heap[g]? = some (.cells (startC A2 m.length c2 l) 25 (0, 0))) := hg9
      have HB9 := Lib.hid hb9
      have HT7 := Lib.hid (Two.mk (w := w) (wx := w9) ((hb9.block _ (by omega)).trans HMD.out.two.g0) ((hb9.block _ (by omega)).trans HMD.out.two.g1) (Below.trans HMD.out.two.x (Below.mono hb9 (by omega))))
      have HO : Hid ((startC A2 m.length c2 l).all (·.oneCell') = true) := Lib.hid (dk_one (start_is (F := w9) HL.out HW5.out HBY.out (own_at HMD.out.own fun b hb => hb9.block b (HMD.out.below b hb))))
      have hlt9 := hb9.size
      clear hg9 hb9
      have H31 := Lib.hid ((setRow_other w9 w.heap.size (w.heap.size + 1) (startC A2 m.length c2 l) (by omega)).trans HT7.out.g1)
      go_wp2_with (first | refine wpList_load_row rfl 25 _ rfl g rfl 25 (startC A2 m.length c2 l) (0, 0) _ HG.out Tryd.underlying25 rfl (by rw [HSZ.out]; exact sizeS) ?_ | refine wpList_store_row rfl 25 _ _ rfl w.heap.size (startC A2 m.length c2 l) rfl rfl 25 zeroDk HT7.out.g0 (by rw [HSZ.out]; exact sizeS) (by rw [HSZ.out]; rfl) HO.out ?_ | refine wpList_store_row rfl 28 _ _ rfl (w.heap.size + 1) #[.int .i64 0, .int .i64 0] rfl rfl 28 _ H31.out sizeF rfl (by kernel_rfl) ?_)
      refine bodyPost_ret (results_two rfl _ _ w.heap.size (w.heap.size + 1) 25 28 (startC A2 m.length c2 l) #[.int .i64 0, .int .i64 0] (0, 0) (0, 0) _ _ rfl ?_ Tryd.underlying25 rfl (by rw [HSZ.out]; exact sizeS) rfl ?_ Tryd.underlying28 rfl sizeF) rfl (start_fin HL.out HW5.out HBY.out HMD.out HB9.out)
      · rw [setRow_other _ _ _ _ (by omega)]; exact setRow_heap _ _ _ _ _ _ HT7.out.g0
      · exact setRow_heap _ _ _ _ _ _ H31.out
theorem start_all (A B : Option Addr) (l m : List Int) (c' d' : Nat) (w : World) (hl : l.length ≤ maxLen) (hm : m.length ≤ maxLen) (h1 : Sl w .i64 A l) (hA : A = none → c' = 0) (bm : Byt m) (h2 : Sl w .u8 B m) (hB : B = none → d' = 0) :
    Calls Tryd.prog 12 #[.slice A l.length c', .slice B m.length d'] w (SRet w (startG l m)) := by
  by_cases hf : faultW l = (0, 0)
  · by_cases h : 1000 < m.length
    · exact start_long A B l m c' d' w hl h1 hf h hm
    · exact start_good A B l m c' d' w hl h1 hA hf h bm h2 hB
  · exact start_bad A B l m c' d' w hl h1 hf
end Go.Proofs.YtbaahbpianingaaDoor
namespace Go.Proofs.YtbaahbpianingaaDoor
open Go Go.Proofs Go.RowKit
open Tape (Rule Ts)
set_option maxHeartbeats 1600000
set_option maxRecDepth 100000
def ruleV (r : Rule) : List Value := [.int .i64 r.st, .int .i64 r.sy, .int .i64 r.wr, .int .i64 r.mv, .int .i64 r.nx]
def rulesV (L : List Rule) : List Value := L.flatMap ruleV
theorem ruleV_len (r : Rule) : (ruleV r).length = 5 := rfl
theorem rulesV_len : ∀ L : List Rule, (rulesV L).length = L.length * 5
  | [] => rfl
  | r :: L => by
    show (ruleV r ++ rulesV L).length = _
    rw [List.length_append, rulesV_len L, ruleV_len, List.length_cons]
    omega
theorem rulesV_get : ∀ (L : List Rule) (i j : Nat) (r : Rule), L[i]? = some r → j < 5 → (rulesV L)[i * 5 + j]? = (ruleV r)[j]?
  | [], _, _, _, h, _ => by simp at h
  | q :: L, 0, j, r, h, hj => by
    have e : q = r := by simpa using h
    subst e
    show (ruleV q ++ rulesV L)[0 * 5 + j]? = _
    rw [List.getElem?_append_left (by rw [ruleV_len]; omega)]
    congr 1
    omega
  | q :: L, i + 1, j, r, h, hj => by
    show (ruleV q ++ rulesV L)[(i + 1) * 5 + j]? = _
    rw [List.getElem?_append_right (by rw [ruleV_len]; omega), ruleV_len, show (i + 1) * 5 + j - 5 = i * 5 + j by omega]
    exact rulesV_get L i j r (by simpa using h) hj
theorem rulesV_append (L M : List Rule) : rulesV (L ++ M) = rulesV L ++ rulesV M := List.flatMap_append
theorem rulesV_one (L : List Rule) : ∀ u ∈ rulesV L, u.oneCell' = true := by
  intro u hu
  obtain ⟨r, _, hr⟩ := List.mem_flatMap.1 hu
  simp only [ruleV, List.mem_cons, List.not_mem_nil, or_false] at hr
  rcases hr with rfl | rfl | rfl | rfl | rfl <;> rfl
/-- A rule lies here. -/
structure RuleAt (w : World) (b o : Nat) (r : Rule) : Prop where
  st : w.cell? ⟨b, o, none⟩ = some (.int .i64 r.st)
  sy : w.cell? ⟨b, o + 1, none⟩ = some (.int .i64 r.sy)
  wr : w.cell? ⟨b, o + 2, none⟩ = some (.int .i64 r.wr)
  mv : w.cell? ⟨b, o + 3, none⟩ = some (.int .i64 r.mv)
  nx : w.cell? ⟨b, o + 4, none⟩ = some (.int .i64 r.nx)
/-- A slice of rules. -/
def Rls (w : World) (A : Option Addr) (L : List Rule) : Prop := SlC w A (rulesV L)
theorem Rls.ext {w w' : World} {A : Option Addr} {L : List Rule} (h : Rls w A L) (e : Ext w w') : Rls w' A L := SlC.ext h e
theorem SlC.base {w : World} {A : Option Addr} {xs : List Value} (h : SlC w A xs) (hn : 0 < xs.length) : ∃ b o, A = some ⟨b, o, none⟩ := by
  obtain ⟨a, ha, hc⟩ := h 0 xs[0] (List.getElem?_eq_getElem hn)
  obtain ⟨b, o, s⟩ := a
  have hs : s = none := by
    cases s with
    | none => rfl
    | some x => simp [Addr.add, World.cell?] at hc; split at hc <;> simp at hc
  subst hs
  exact ⟨b, o, ha⟩
theorem add_off (b o i : Nat) : (⟨b, o, none⟩ : Addr).add i = ⟨b, o + i, none⟩ := by
  unfold Addr.add
  split
  · rename_i h; subst h; rfl
  · rfl
theorem SlC.cell {w : World} {b o : Nat} {xs : List Value} (h : SlC w (some ⟨b, o, none⟩) xs) {i : Nat} {u : Value} (hu : xs[i]? = some u) : w.cell? ⟨b, o + i, none⟩ = some u := by
  obtain ⟨a, ha, hc⟩ := h i u hu
  cases ha
  rw [add_off] at hc
  exact hc
theorem Rls.at_ {w : World} {A : Option Addr} {L : List Rule} (h : Rls w A L) {i : Nat} {r : Rule} (hr : L[i]? = some r) : ∃ b o, A = some ⟨b, o, none⟩ ∧ RuleAt w b (o + i * 5) r := by
  have hi := (List.getElem?_eq_some_iff.1 hr).1
  obtain ⟨b, o, hA⟩ := SlC.base h (by rw [rulesV_len]; omega)
  subst hA
  refine ⟨b, o, rfl, ?_, ?_, ?_, ?_, ?_⟩
  · have := SlC.cell h (rulesV_get L i 0 r hr (by omega)); exact this
  · have := SlC.cell h (rulesV_get L i 1 r hr (by omega)); rw [← Nat.add_assoc] at this; exact this
  · have := SlC.cell h (rulesV_get L i 2 r hr (by omega)); rw [← Nat.add_assoc] at this; exact this
  · have := SlC.cell h (rulesV_get L i 3 r hr (by omega)); rw [← Nat.add_assoc] at this; exact this
  · have := SlC.cell h (rulesV_get L i 4 r hr (by omega)); rw [← Nat.add_assoc] at this; exact this
theorem RuleAt.ext {w w' : World} {b o : Nat} {r : Rule} (h : RuleAt w b o r) (e : Ext w w') : RuleAt w' b o r := ⟨e.cell h.st, e.cell h.sy, e.cell h.wr, e.cell h.mv, e.cell h.nx⟩
/-- The numbers of a rule are int's. -/
structure RuleWf (r : Rule) : Prop where
  st : I64 r.st
  sy : I64 r.sy
  wr : I64 r.wr
  mv : I64 r.mv
  nx : I64 r.nx
/-- What is known of a rule that is one. -/
structure RuleFits (r : Rule) : Prop where
  st0 : 0 ≤ r.st
  st1 : r.st ≤ 15
  sy0 : 0 ≤ r.sy
  sy1 : r.sy ≤ 3
  wr0 : 0 ≤ r.wr
  wr1 : r.wr ≤ 3
  mv0 : -1 ≤ r.mv
  mv1 : r.mv ≤ 1
  nx0 : -1 ≤ r.nx
  nx1 : r.nx ≤ 15
theorem rule_fits {r : Rule} (h : Tape.ruleB r = true) : RuleFits r := by
  obtain ⟨⟨a, b⟩, ⟨c, d⟩, ⟨e, f⟩, ⟨g, i⟩, ⟨j, k⟩⟩ := Tape.ruleB_iff.1 h
  exact ⟨a, b, c, d, e, f, g, i, j, k⟩
theorem ruleB_in (r : Rule) : Tape.ruleB r = (inB r.st 0 15 && inB r.sy 0 3 && inB r.wr 0 3 && inB r.mv (-1) 1 && inB r.nx (-1) 15) := by
  unfold Tape.ruleB inB
  simp only [Bool.decide_and]
/-- A rule that does not stand behind the one ahead of it. -/
def ordB : Option Rule → Rule → Bool
  | none, _ => false
  | some q, r => !Tape.befB q r
/-- The first fault of rules, from rule i on; p: the rule ahead. -/
def scanR : Nat → Option Rule → List Rule → Int × Int
  | _, _, [] => (0, 0)
  | i, p, r :: rest => if Tape.ruleB r = false then (4, (i : Int)) else if ordB p r = true then (11, (i : Int)) else scanR (i + 1) (some r) rest
def faultR (L : List Rule) : Int × Int := if 64 < L.length then (2, -1) else scanR 0 none L
/-- The rule ahead of rule k. -/
def prevR (L : List Rule) (k : Nat) : Option Rule := if k = 0 then none else L[k - 1]?
theorem prevR_succ {L : List Rule} {k : Nat} {r : Rule} (h : L[k]? = some r) : prevR L (k + 1) = some r := by unfold prevR; rw [if_neg (by omega), Nat.add_sub_cancel, h]
theorem scan_step {L : List Rule} {k : Nat} {r : Rule} (h : L[k]? = some r) : scanR k (prevR L k) (L.drop k) =
    if Tape.ruleB r = false then (4, (k : Int)) else if ordB (prevR L k) r = true then (11, (k : Int)) else scanR (k + 1) (prevR L (k + 1)) (L.drop (k + 1)) := by
  obtain ⟨h1, h2⟩ := List.getElem?_eq_some_iff.1 h
  rw [List.drop_eq_getElem_cons h1, h2, prevR_succ h]
  rfl
end Go.Proofs.YtbaahbpianingaaDoor
namespace Go.Proofs.YtbaahbpianingaaDoor
open Go Go.Proofs Go.RowKit
open Acc (Dk red five)
set_option maxHeartbeats 4000000
set_option maxRecDepth 100000
def SRetS (w : World) (s : ByteArray) (e : Ending) (w' : World) : Prop := e = .returned (.string s) ∧ Ext w w'
def strLen (v : Value) : Nat := match v with | .string b => b.size | _ => 0
theorem signed_nat (n : Nat) : Acc.signed (n : Int) = Acc.dec n := by
  unfold Acc.signed
  rw [if_neg (by omega)]
  rfl
theorem zero_more (b : ByteArray) (l : List Int) (h : strOfNums l = b) : (⟨#[48]⟩ : ByteArray) ++ b = strOfNums (48 :: l) := by
  rw [← h]
  exact strOfNums_append [48] l
theorem digits_c (n k : Nat) (w : World) (hn : n < 10 ^ 5) (hk : k ≤ 10) (ht : Tabs w) : Calls Tryd.prog 75 #[.int .i64 (n : Int), .int .i64 (k : Int)] w (SRetS w (strOfNums (Acc.pad k (Acc.dec n)))) := by
  have hd := Acc.dec_len (n := n) (k := 5) (by omega) hn
  have HI := Lib.hid (itoa_c (n : Int) w (by omega) (by omega) ht)
  rw [signed_nat] at HI
  unfold Acc.pad
  generalize Acc.dec n = d at *
  clear ht
  obtain ⟨K, hK⟩ : ∃ K : Int, (k : Int) = K := ⟨_, rfl⟩
  go_enter Tryd.func75, Tryd.ntmps75
  go_wp2_with (go_at_call 60; refine HI.out.mono ?_; rintro e w1 ⟨rfl, hx⟩)
  have HX := Lib.hid hx
  clear hx
  go_loop [5] (fun s => ∃ j : Nat, ∃ b, s = .string b ∧ Hid (strOfNums (List.replicate j 48 ++ d) = b) ∧ (j = 0 ∨ j + d.length ≤ k) ∧ b.size = j + d.length) (fun s => k - strLen s)
  case atStart => exact ⟨0, _, rfl, Lib.hid rfl, .inl rfl, by rw [strOfNums_size]; simp⟩
  case round =>
    obtain ⟨j, b, rfl, hb, hj, hs⟩ := hrel
    have HS := Lib.hid hs
    have hs1 : b.size ≤ 20 := by omega
    by_cases hlt : b.size < k
    · have HZ := Lib.hid (zero_more b _ hb.out)
      clear hs
      go_wp2
      go_round
      case rel =>
        have hr : strOfNums (List.replicate (j + 1) 48 ++ d) = (⟨#[48]⟩ : ByteArray) ++ b := by rw [HZ.out, List.replicate_succ, List.cons_append]
        have hs3 := HS.out
        refine ⟨j + 1, _, rfl, Lib.hid hr, .inr ?_, ?_⟩
        · omega
        · rw [HZ.out, strOfNums_size]; simp; omega
      case measure =>
        have hs3 : ((⟨#[48]⟩ : ByteArray) ++ b).size = b.size + 1 := by rw [HZ.out, strOfNums_size]; have := HS.out; simp; omega
        show k - ((⟨#[48]⟩ : ByteArray) ++ b).size < k - b.size
        omega
    · have HR : Hid (b = strOfNums (List.replicate (k - d.length) 48 ++ d)) := Lib.hid (by rw [← hb.out]; congr 3; omega)
      clear hs
      go_wp2
      go_ret
      exact ⟨ret_str HR.out, HX.out⟩
theorem sz_pad (k n : Nat) (hk : 1 ≤ k) (hn : n < 10 ^ k) : (strOfNums (Acc.pad k (Acc.dec n))).size = k := by
  rw [strOfNums_size, Acc.pad_dec hk hn, Acc.fix_len]
theorem card_c (i : Nat) (v : Int) (w : World) (hi : i < 100) (hv : five v = true) (ht : Tabs w) (h8 : 2 ≤ w.heap.size) : Calls Tryd.prog 47 #[.int .i64 (i : Int), .int .i64 v] w (SRetS w (strOfNums (Acc.cardF i v))) := by
  have h5 := Acc.five_iff.1 hv
  have HD := Lib.hid (fun (W : World) (hx : Ext w W) => digits_c i 2 W (by omega) (by omega) (ht.below hx h8))
  have HE := Lib.hid (fun (W : World) (hx : Ext w W) => digits_c v.natAbs 5 W (by omega) (by omega) (ht.below hx h8))
  have s2 := sz_pad 2 i (by omega) (by omega)
  have s5 := sz_pad 5 v.natAbs (by omega) (by omega)
  unfold Acc.cardF
  clear ht
  by_cases hn : v < 0
  · obtain ⟨m, rfl⟩ : ∃ m : Nat, v = -(m : Int) := ⟨v.natAbs, by omega⟩
    rw [if_pos hn]
    have e : (-(m : Int)).natAbs = m := by omega
    rw [e] at HE s5 ⊢
    have HF : Hid (strOfNums (Acc.pad 2 (Acc.dec i)) ++ (⟨#[32]⟩ : ByteArray) ++ (⟨#[45]⟩ : ByteArray) ++ strOfNums (Acc.pad 5 (Acc.dec m)) ++ (⟨#[10]⟩ : ByteArray) = strOfNums (Acc.pad 2 (Acc.dec i) ++ [32, 45] ++ Acc.pad 5 (Acc.dec m) ++ [10])) := Lib.hid (by
      have e1 : (⟨#[32]⟩ : ByteArray) = strOfNums [32] := rfl
      have e2 : (⟨#[45]⟩ : ByteArray) = strOfNums [45] := rfl
      have e3 : (⟨#[10]⟩ : ByteArray) = strOfNums [10] := rfl
      rw [e1, e2, e3]; simp only [strOfNums_append, List.append_assoc, List.cons_append, List.nil_append])
    clear e
    generalize strOfNums (Acc.pad 2 (Acc.dec i)) = A at *
    generalize strOfNums (Acc.pad 5 (Acc.dec m)) = B at *
    go_enter Tryd.func47, Tryd.ntmps47
    go_wp2_with fail
    refine (HD.out _ (Ext.refl _)).mono ?_
    rintro e w1 ⟨rfl, hx1⟩
    have HX1 := Lib.hid hx1
    clear hx1
    go_wp2_with fail
    rw [show max (-(m : Int)) (m : Int) = m by omega]
    refine (HE.out _ HX1.out).mono ?_
    rintro e w2 ⟨rfl, hx2⟩
    have HX2 := Lib.hid (HX1.out.trans hx2)
    clear hx2
    go_wp2_with fail
    go_ret
    exact ⟨ret_str HF.out, HX2.out⟩
  · obtain ⟨m, rfl⟩ : ∃ m : Nat, v = (m : Int) := ⟨v.natAbs, by omega⟩
    rw [if_neg hn]
    have e : (m : Int).natAbs = m := by omega
    rw [e] at HE s5 ⊢
    have HF : Hid (strOfNums (Acc.pad 2 (Acc.dec i)) ++ (⟨#[32]⟩ : ByteArray) ++ (⟨#[43]⟩ : ByteArray) ++ strOfNums (Acc.pad 5 (Acc.dec m)) ++ (⟨#[10]⟩ : ByteArray) = strOfNums (Acc.pad 2 (Acc.dec i) ++ [32, 43] ++ Acc.pad 5 (Acc.dec m) ++ [10])) := Lib.hid (by
      have e1 : (⟨#[32]⟩ : ByteArray) = strOfNums [32] := rfl
      have e2 : (⟨#[43]⟩ : ByteArray) = strOfNums [43] := rfl
      have e3 : (⟨#[10]⟩ : ByteArray) = strOfNums [10] := rfl
      rw [e1, e2, e3]; simp only [strOfNums_append, List.append_assoc, List.cons_append, List.nil_append])
    clear e
    generalize strOfNums (Acc.pad 2 (Acc.dec i)) = A at *
    generalize strOfNums (Acc.pad 5 (Acc.dec m)) = B at *
    go_enter Tryd.func47, Tryd.ntmps47
    go_wp2_with fail
    refine (HD.out _ (Ext.refl _)).mono ?_
    rintro e w1 ⟨rfl, hx1⟩
    have HX1 := Lib.hid hx1
    clear hx1
    go_wp2_with fail
    rw [show max (m : Int) (-(m : Int)) = m by omega]
    refine (HE.out _ HX1.out).mono ?_
    rintro e w2 ⟨rfl, hx2⟩
    have HX2 := Lib.hid (HX1.out.trans hx2)
    clear hx2
    go_wp2_with fail
    go_ret
    exact ⟨ret_str HF.out, HX2.out⟩
end Go.Proofs.YtbaahbpianingaaDoor
