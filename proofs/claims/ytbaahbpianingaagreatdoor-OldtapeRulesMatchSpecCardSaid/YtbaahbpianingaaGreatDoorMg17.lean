import Derived.Test.YtbaahbpianingaaGreatDoorMg6
import Derived.Test.YtbaahbpianingaaGreatDoorMg16
namespace Go.Proofs.YtbaahbpianingaaGreatDoor
open Go Go.Proofs Go.RowKit
open Tape (Rule Ts splitP)
set_option maxHeartbeats 6400000
set_option maxRecDepth 100000
theorem join_five (a b c d e : List Int) : (⟨(Lib.join ([strOfNums a, strOfNums b, strOfNums c, strOfNums d, strOfNums e].map (·.data.toList)) (⟨#[32]⟩ : ByteArray).data.toList).toArray⟩ : ByteArray) = strOfNums (a ++ 32 :: (b ++ 32 :: (c ++ 32 :: (d ++ 32 :: e)))) := by
  apply ByteArray.ext
  apply Array.toList_inj.1
  rw [strOfNums_data]
  simp [Lib.join_cons, Lib.joinTail, strOfNums_data]
theorem dec_two {n : Nat} (h : n < 100) : (Acc.dec n).length ≤ 2 := by
  rw [Acc.dec]
  split
  · simp
  · rw [List.length_append, Acc.dec, dif_pos (by omega)]; simp
theorem next_two {r : Rule} (h : RuleFits r) : (Tape.nextF r.nx).length ≤ 2 := by
  have := h.nx1
  unfold Tape.nextF
  split
  · exact dec_two (by omega)
  · simp
theorem body_len {r : Rule} (h : RuleFits r) : (Tape.bodyR r).length ≤ 13 := by
  have h1 := dec_two (n := r.st.toNat) (by have := h.st1; omega)
  have h2 := dec_two (n := r.sy.toNat) (by have := h.sy1; omega)
  have h3 := dec_two (n := r.wr.toNat) (by have := h.wr1; omega)
  have h4 := next_two h
  unfold Tape.bodyR
  simp only [List.length_append, List.length_cons, List.length_nil]
  omega
def writeT (L : List Rule) : List Int × (Int × Int) := if faultR L = (0, 0) then (Tape.textR L, (0, 0)) else ([], faultR L)
theorem text_snoc {L : List Rule} {k : Nat} {r : Rule} (h : L[k]? = some r) : Tape.textR (L.take (k + 1)) = Tape.textR (L.take k) ++ (Tape.bodyR r ++ [10]) := by
  rw [List.take_add_one, h, Option.toList_some]
  unfold Tape.textR
  rw [List.flatMap_append]
  simp [Tape.lineR]
theorem signed_dec {n : Int} (h : 0 ≤ n) : Acc.signed n = Acc.dec n.toNat := by unfold Acc.signed; rw [if_neg (by omega)]
theorem join_c {r : Rule} (h : RuleFits r) (gs : Nat) (w : World) (hg : w.heap[gs]? = some (.cells #[.string (strOfNums (Acc.signed r.st)), .string (strOfNums (Acc.signed r.sy)), .string (strOfNums (Acc.signed r.wr)), .string (strOfNums [Tape.moveC r.mv]), .string (strOfNums (Tape.nextF r.nx))] 9 (0, 0))) (hgl : gs < w.heap.size) :
    Calls Tryz.prog 39 #[.slice (some ⟨gs, 0, none⟩) 5 5, .string ⟨#[32]⟩] w fun e w' => e = .returned (.string (strOfNums (Tape.bodyR r))) ∧ Ext w w' := by
  have hb : (⟨(Lib.join ([strOfNums (Acc.signed r.st), strOfNums (Acc.signed r.sy), strOfNums (Acc.signed r.wr), strOfNums [Tape.moveC r.mv], strOfNums (Tape.nextF r.nx)].map (·.data.toList)) (⟨#[32]⟩ : ByteArray).data.toList).toArray⟩ : ByteArray) = strOfNums (Tape.bodyR r) := by
    rw [join_five, signed_dec h.st0, signed_dec h.sy0, signed_dec h.wr0]
    rfl
  have hl : (Lib.join ([strOfNums (Acc.signed r.st), strOfNums (Acc.signed r.sy), strOfNums (Acc.signed r.wr), strOfNums [Tape.moveC r.mv], strOfNums (Tape.nextF r.nx)].map (·.data.toList)) (⟨#[32]⟩ : ByteArray).data.toList).length ≤ 140737488355328 := by
    have h1 := congrArg ByteArray.size hb
    rw [strOfNums_size] at h1
    have h2 := body_len h
    have h3 : (⟨(Lib.join ([strOfNums (Acc.signed r.st), strOfNums (Acc.signed r.sy), strOfNums (Acc.signed r.wr), strOfNums [Tape.moveC r.mv], strOfNums (Tape.nextF r.nx)].map (·.data.toList)) (⟨#[32]⟩ : ByteArray).data.toList).toArray⟩ : ByteArray).size = (Lib.join ([strOfNums (Acc.signed r.st), strOfNums (Acc.signed r.sy), strOfNums (Acc.signed r.wr), strOfNums [Tape.moveC r.mv], strOfNums (Tape.nextF r.nx)].map (·.data.toList)) (⟨#[32]⟩ : ByteArray).data.toList).length := List.size_toArray
    omega
  refine (Tryz.strings_Join gs 0 5 [strOfNums (Acc.signed r.st), strOfNums (Acc.signed r.sy), strOfNums (Acc.signed r.wr), strOfNums [Tape.moveC r.mv], strOfNums (Tape.nextF r.nx)] ⟨#[32]⟩ w ?_ hgl (by simp) (by simp) hl).mono ?_
  · intro j x hx
    rw [Nat.zero_add, blk_cell hg]
    match j, hx with
    | 0, hx => injection hx with hx; rw [← hx]; rfl
    | 1, hx => injection hx with hx; rw [← hx]; rfl
    | 2, hx => injection hx with hx; rw [← hx]; rfl
    | 3, hx => injection hx with hx; rw [← hx]; rfl
    | 4, hx => injection hx with hx; rw [← hx]; rfl
    | j + 5, hx => simp at hx
  · rintro e w' ⟨rfl, hw⟩
    rw [hb]
    exact ⟨rfl, hw⟩
theorem writeT_bad (A : Option Addr) (L : List Rule) (c' : Nat) (w : World) (hl : L.length ≤ maxLen) (h1 : Rls w A L) (hwf : ∀ r ∈ L, RuleWf r) (hf : faultR L ≠ (0, 0)) : Calls Tryz.prog 17 #[.slice A L.length c'] w (WRet w (writeT L)) := by
  have he : writeT L = ([], faultR L) := by unfold writeT; rw [if_neg hf]
  rw [he]
  have HC := Lib.hid (fun (W : World) (hx : Ext w W) => checkRules_c A L c' W hl (h1.ext hx) hwf)
  obtain ⟨p, hp⟩ : ∃ p, faultR L = p := ⟨_, rfl⟩
  obtain ⟨c, i⟩ := p
  have q1 := faultR_ne hp hf
  have q2 : ¬ c = 0 := by simpa using q1
  rw [hp] at HC ⊢
  clear hp he hf h1 hwf
  go_enter Tryz.func17, Tryz.ntmps17
  go_wp2_with fail
  refine (HC.out _ ((Ext.refl w).alloc _)).mono ?_
  rintro e w1 ⟨rfl, hx1⟩
  have HX := Lib.hid (((Ext.refl w).alloc (.cells #[.int .i64 0, .int .i64 0] 27)).trans hx1)
  have HBK := Lib.hid (ext_heap hx1 (heap_alloc_new w (.cells #[.int .i64 0, .int .i64 0] 27)))
  have hb := Blk2.mk' HBK.out
  obtain ⟨c0, c1, f0, f1⟩ := hb
  have hlt : w.heap.size < w1.heap.size := by have := hx1.size; simp at this; omega
  clear hx1
  simp only [fAgg]
  go_wp2
  go_region
  go_wp2
  refine bodyPost_ret (results_tc Tryz.results17 _ _ w.heap.size 27 #[.int .i64 c, .int .i64 i] (0, 0) _ rfl (fblk_fin HBK.out _) Tryz.underlying27 rfl sizeF) rfl (wret rfl (Ext.drew (Ext.alloc (ext_set2 HX.out (Nat.le_refl _) _ _) _)))
theorem writeT_good (A : Option Addr) (L : List Rule) (c' : Nat) (w : World) (hl : L.length ≤ maxLen) (h1 : Rls w A L) (hwf : ∀ r ∈ L, RuleWf r) (hf : faultR L = (0, 0)) (ht : TabT w) : Calls Tryz.prog 17 #[.slice A L.length c'] w (WRet w (writeT L)) := by
  have he : writeT L = (Tape.textR L, (0, 0)) := by unfold writeT; rw [if_pos hf]
  rw [he]
  have HC := Lib.hid (fun (W : World) (hx : Ext w W) => hf ▸ checkRules_c A L c' W hl (h1.ext hx) hwf)
  have hr64 := rules_ok hf
  have HRO := Lib.hid hr64.2
  have hln := hr64.1
  have HH1 := Lib.hid h1
  have HT := Lib.hid ht
  clear hf he h1 ht hwf hr64
  obtain ⟨n, hn⟩ : ∃ n, L.length = n := ⟨_, rfl⟩
  have HN := Lib.hid hn
  rw [hn] at hln HC ⊢
  clear hn hl
  go_enter Tryz.func17, Tryz.ntmps17
  go_wp2_with fail
  refine (HC.out _ ((Ext.refl w).alloc _)).mono ?_
  rintro e w1 ⟨rfl, hx1⟩
  have HX := Lib.hid (((Ext.refl w).alloc (.cells #[.int .i64 0, .int .i64 0] 27)).trans hx1)
  have HBK := Lib.hid (ext_heap hx1 (heap_alloc_new w (.cells #[.int .i64 0, .int .i64 0] 27)))
  have hlt : w.heap.size < w1.heap.size := by have := hx1.size; simp at this; omega
  clear hx1
  simp only [fAgg]
  go_wp2
  go_loopw [5, 18] (fun t5 t18 wx => ∃ k : Nat, ∃ b, k ≤ n ∧ t18 = .int .i64 k ∧ t5 = .string b ∧ Hid (b = strOfNums (Tape.textR (L.take k))) ∧ b.size ≤ 14 * k ∧ Ext w1 wx) (fun _ t18 _ => n - (intOf t18).toNat)
  case atStart => exact ⟨0, _, Nat.zero_le _, rfl, rfl, Lib.hid rfl, by decide, (Ext.refl w1).alloc _⟩
  case round =>
    obtain ⟨k, b, hk, rfl, rfl, hb, hbs, hx⟩ := hrel
    have HXR := Lib.hid hx
    have hltr : w.heap.size < wr.heap.size := by have := hx.size; omega
    have HHB := Lib.hid hb.out
    have HBS := Lib.hid hbs
    clear hx hb
    by_cases hlt2 : k < n
    · obtain ⟨r, hr⟩ : ∃ r, L[k]? = some r := ⟨_, List.getElem?_eq_getElem (by rw [HN.out]; exact hlt2)⟩
      obtain ⟨bb, o, rfl, hra⟩ := Rls.at_ (HH1.out.ext (HX.out.trans HXR.out)) hr
      have HRA := Lib.hid hra
      have HRF := Lib.hid (rule_fits (HRO.out r (List.mem_of_getElem? hr)))
      have HSN := Lib.hid (text_snoc hr)
      clear hra hr
      go_upto_region 7 with (fail)
      go_cut [7] (fun s7 wx => s7 = .pointer (some ⟨wr.heap.size, 0, none⟩) ∧ wx.heap[wr.heap.size]? = some (.cells (ruleV r).toArray 54 (0, 0)) ∧ Ext wr wx)
      case first =>
        have HZ := Lib.hid (heap_alloc_new wr (.cells #[.int .i64 0, .int .i64 0, .int .i64 0, .int .i64 0, .int .i64 0] 54))
        go_wp2_with (first | refine wpList_load_cells rfl 54 _ rfl bb (o + k * 5) rfl _ (ruleV r) HRA.out.cells Tryz.underlying54 rfl sizeR ?_ | refine wpList_store_row rfl 54 _ _ rfl wr.heap.size (ruleV r).toArray rfl rfl 54 _ HZ.out sizeR rfl (ruleV_one r) ?_)
        go_meet
        exact ⟨rfl, setRow_heap _ _ _ _ _ _ HZ.out, ((Ext.refl wr).alloc _).setRow (Nat.le_refl _) _⟩
      obtain ⟨rfl, hbr, hxa⟩ := hcut
      obtain ⟨wa, rfl⟩ : ∃ wa : World, wa = wc := ⟨_, rfl⟩
      obtain ⟨gr, hgr⟩ : ∃ gr, gr = wr.heap.size := ⟨_, rfl⟩
      rw [← hgr] at hbr ⊢
      have HXA := Lib.hid (HXR.out.trans hxa)
      have HBR := Lib.hid hbr
      have y4 : wa.cell? ⟨gr, 4, none⟩ = some (.int .i64 r.nx) := blk_cell hbr 4
      have hlta : gr < wa.heap.size := (Array.getElem?_eq_some_iff.1 hbr).1
      have hTA := HT.out.ext (HX.out.trans HXA.out)
      have HIT := Lib.hid (fun (m : Int) (h : -100 ≤ m ∧ m ≤ 100) (W : World) (x : Ext wa W) => itoa_c m W (by omega) (by omega) (hTA.ext x).t)
      clear hxa hbr hgr hTA
      have hn0 := HRF.out.nx0
      have hn1 := HRF.out.nx1
      go_upto_if 24 with (fail)
      go_cut [8] (fun s8 wx => ∃ nb, s8 = .string nb ∧ Hid (nb = strOfNums (Tape.nextF r.nx)) ∧ Ext wa wx)
      case first =>
        by_cases hnx : 0 ≤ r.nx
        · have HI := Lib.hid (HIT.out r.nx (by omega) wa (Ext.refl _))
          have HE : Hid (strOfNums (Acc.signed r.nx) = strOfNums (Tape.nextF r.nx)) := Lib.hid (by rw [signed_dec hnx]; unfold Tape.nextF; rw [if_pos hnx])
          go_wp2_with (go_at_call 38; refine HI.out.mono ?_; rintro e w2 ⟨rfl, hx2⟩)
          go_meet
          exact ⟨_, rfl, HE, hx2⟩
        · have HE : Hid ((⟨#[72]⟩ : ByteArray) = strOfNums (Tape.nextF r.nx)) := Lib.hid (by unfold Tape.nextF; rw [if_neg hnx]; rfl)
          go_wp2_with fail
          go_meet
          exact ⟨_, rfl, HE, Ext.refl _⟩
      obtain ⟨nb, rfl, hnb, hxb⟩ := hcut
      obtain ⟨wb, rfl⟩ : ∃ wb : World, wb = wc := ⟨_, rfl⟩
      have HXB := Lib.hid hxb
      have HNB := Lib.hid hnb.out
      have HBB := Lib.hid (ext_heap hxb HBR.out)
      have hltb : gr < wb.heap.size := (Array.getElem?_eq_some_iff.1 HBB.out).1
      have HI0 := Lib.hid (fun (W : World) (x : Ext wb W) => HIT.out r.st (by have := HRF.out.st0; have := HRF.out.st1; omega) W (HXB.out.trans x))
      have HI1 := Lib.hid (fun (W : World) (x : Ext wb W) => HIT.out r.sy (by have := HRF.out.sy0; have := HRF.out.sy1; omega) W (HXB.out.trans x))
      have HI2 := Lib.hid (fun (W : World) (x : Ext wb W) => HIT.out r.wr (by have := HRF.out.wr0; have := HRF.out.wr1; omega) W (HXB.out.trans x))
      have hmv : r.mv = -1 ∨ r.mv = 0 ∨ r.mv = 1 := by have := HRF.out.mv0; have := HRF.out.mv1; omega
      have HMVS := Lib.hid hmv
      clear hxb hnb hmv y4
      go_upto_region 11 with (fail)
      go_cut [9] (fun s9 wx => ∃ gs q3, s9 = .slice (some ⟨gs, 0, none⟩) 5 5 ∧ wx.heap[gs]? = some (.cells #[.string (strOfNums (Acc.signed r.st)), .string (strOfNums (Acc.signed r.sy)), .string (strOfNums (Acc.signed r.wr)), .string q3, .string nb] 9 (0, 0)) ∧ Hid (q3 = strOfNums [Tape.moveC r.mv]) ∧ Ext wb wx)
      case first =>
        have y0 : wb.cell? ⟨gr, 0, none⟩ = some (.int .i64 r.st) := blk_cell HBB.out 0
        have y1 : wb.cell? ⟨gr, 1, none⟩ = some (.int .i64 r.sy) := blk_cell HBB.out 1
        have y2 : wb.cell? ⟨gr, 2, none⟩ = some (.int .i64 r.wr) := blk_cell HBB.out 2
        have y3' : wb.cell? ⟨gr, 3, none⟩ = some (.int .i64 r.mv) := blk_cell HBB.out 3
        have k0 : IntKind.i64.wrap 0 = 0 := by decide
        have k1 : IntKind.i64.wrap 1 = 1 := by decide
        have k2 : IntKind.i64.wrap 2 = 2 := by decide
        have k3 : IntKind.i64.wrap 3 = 3 := by decide
        rcases HMVS.out with hm | hm | hm
        · have HMV := Lib.hid hm
          have y3 : wb.cell? ⟨gr, 3, none⟩ = some (.int .i64 (-1)) := by rw [y3', hm]
          clear y3' hm
          refine wp_region_held_drew (S := (fun w' => w'.cell? ⟨gr, 0, none⟩ = some (.int .i64 r.st) ∧ w'.cell? ⟨gr, 1, none⟩ = some (.int .i64 r.sy) ∧ w'.cell? ⟨gr, 2, none⟩ = some (.int .i64 r.wr) ∧ w'.cell? ⟨gr, 3, none⟩ = some (.int .i64 (-1)))) (by kernel_rfl) ?_ (fun hHeld => ?_)
          · exact ⟨y0, y1, y2, y3⟩
          refine wpAnyH_take (i := 0) (oi := { dst := some 28, op := _, type := _, pos := _, after := _, guard := _ }) (v := ?v1001) rfl (by kernel_rfl) (by kernel_rfl) (by kernel_rfl) (fun _ _ _ h => h) (Or.inl ⟨by rfl, ?hy1001⟩) (by assumption) ?rest1001
          case hy1001 => (intro w hSw; (try dsimp only at hSw); go_simp; (try with_reducible rfl))
          try simp only [Act.put, List.setIfInBounds_toArray, List.set_cons_zero, List.set_cons_succ]
          refine wpAnyH_take (i := 1) (oi := { dst := some 29, op := _, type := _, pos := _, after := _, guard := _ }) (v := ?v1002) rfl (by kernel_rfl) (by kernel_rfl) (by kernel_rfl) (fun _ _ _ h => h) (Or.inl ⟨by rfl, ?hy1002⟩) (by assumption) ?rest1002
          case hy1002 => (intro w hSw; (try dsimp only at hSw); go_simp; (try with_reducible rfl))
          try simp only [Act.put, List.setIfInBounds_toArray, List.set_cons_zero, List.set_cons_succ]
          refine wpAnyH_take (i := 3) (oi := { dst := some 31, op := _, type := _, pos := _, after := _, guard := _ }) (v := ?v1003) rfl (by kernel_rfl) (by kernel_rfl) (by kernel_rfl) (fun _ _ _ h => h) (Or.inl ⟨by rfl, ?hy1003⟩) (by assumption) ?rest1003
          case hy1003 => (intro w hSw; (try dsimp only at hSw); go_simp; (try with_reducible rfl))
          try simp only [Act.put, List.setIfInBounds_toArray, List.set_cons_zero, List.set_cons_succ]
          refine wpAnyH_take (i := 4) (oi := { dst := some 32, op := _, type := _, pos := _, after := _, guard := _ }) (v := ?v1004) rfl (by kernel_rfl) (by kernel_rfl) (by kernel_rfl) (fun _ _ _ h => h) (Or.inl ⟨by rfl, ?hy1004⟩) (by assumption) ?rest1004
          case hy1004 => (intro w hSw; (try dsimp only at hSw); go_simp; (try with_reducible rfl))
          try simp only [Act.put, List.setIfInBounds_toArray, List.set_cons_zero, List.set_cons_succ]
          refine wpAnyH_take (i := 6) (oi := { dst := some 34, op := _, type := _, pos := _, after := _, guard := _ }) (v := ?v1005) rfl (by kernel_rfl) (by kernel_rfl) (by kernel_rfl) (fun _ _ _ h => h) (Or.inl ⟨by rfl, ?hy1005⟩) (by assumption) ?rest1005
          case hy1005 => (intro w hSw; (try dsimp only at hSw); go_simp; (try with_reducible rfl))
          try simp only [Act.put, List.setIfInBounds_toArray, List.set_cons_zero, List.set_cons_succ]
          refine wpAnyH_take (i := 7) (oi := { dst := some 35, op := _, type := _, pos := _, after := _, guard := _ }) (v := ?v1006) rfl (by kernel_rfl) (by kernel_rfl) (by kernel_rfl) (fun _ _ _ h => h) (Or.inl ⟨by rfl, ?hy1006⟩) (by assumption) ?rest1006
          case hy1006 => (intro w hSw; (try dsimp only at hSw); go_simp; (try with_reducible rfl))
          try simp only [Act.put, List.setIfInBounds_toArray, List.set_cons_zero, List.set_cons_succ]
          refine wpAnyH_take (i := 9) (oi := { dst := some 37, op := _, type := _, pos := _, after := _, guard := _ }) (v := ?v1007) rfl (by kernel_rfl) (by kernel_rfl) (by kernel_rfl) (fun _ _ _ h => h) (Or.inl ⟨by rfl, ?hy1007⟩) (by assumption) ?rest1007
          case hy1007 => (intro w hSw; (try dsimp only at hSw); go_simp; (try with_reducible rfl))
          try simp only [Act.put, List.setIfInBounds_toArray, List.set_cons_zero, List.set_cons_succ]
          refine wpAnyH_take (i := 10) (oi := { dst := some 38, op := _, type := _, pos := _, after := _, guard := _ }) (v := ?v1008) rfl (by kernel_rfl) (by kernel_rfl) (by kernel_rfl) (fun _ _ _ h => h) (Or.inl ⟨by rfl, ?hy1008⟩) (by assumption) ?rest1008
          case hy1008 => (intro w hSw; (try dsimp only at hSw); go_simp; (try with_reducible rfl))
          try simp only [Act.put, List.setIfInBounds_toArray, List.set_cons_zero, List.set_cons_succ]
          refine wpAnyH_take (i := 11) (oi := { dst := some 39, op := _, type := _, pos := _, after := _, guard := _ }) (v := ?v1009) rfl (by kernel_rfl) (by kernel_rfl) (by kernel_rfl) (fun _ _ _ h => h) (Or.inl ⟨by rfl, ?hy1009⟩) (by assumption) ?rest1009
          case hy1009 => (intro w hSw; (try dsimp only at hSw); go_simp; (try with_reducible rfl))
          try simp only [Act.put, List.setIfInBounds_toArray, List.set_cons_zero, List.set_cons_succ]
          refine wpAnyH_take (i := 12) (oi := { dst := some 40, op := _, type := _, pos := _, after := _, guard := _ }) (v := ?v1010) rfl (by kernel_rfl) (by kernel_rfl) (by kernel_rfl) (fun _ _ _ h => h) (Or.inl ⟨by rfl, ?hy1010⟩) (by assumption) ?rest1010
          case hy1010 => (intro w hSw; (try dsimp only at hSw); go_simp; (try with_reducible rfl))
          try simp only [Act.put, List.setIfInBounds_toArray, List.set_cons_zero, List.set_cons_succ]
          refine wpAnyH_take (i := 13) (oi := { dst := some 41, op := _, type := _, pos := _, after := _, guard := _ }) (v := ?v1011) rfl (by kernel_rfl) (by kernel_rfl) (by kernel_rfl) (fun _ _ _ h => h) (Or.inl ⟨by rfl, ?hy1011⟩) (by assumption) ?rest1011
          case hy1011 => (intro w hSw; (try dsimp only at hSw); go_simp; (try with_reducible rfl))
          try simp only [Act.put, List.setIfInBounds_toArray, List.set_cons_zero, List.set_cons_succ]
          refine wpAnyH_take (i := 14) (oi := { dst := some 42, op := _, type := _, pos := _, after := _, guard := _ }) (v := ?v1012) rfl (by kernel_rfl) (by kernel_rfl) (by kernel_rfl) (fun _ _ _ h => h) (Or.inl ⟨by rfl, ?hy1012⟩) (by assumption) ?rest1012
          case hy1012 => (intro w hSw; (try dsimp only at hSw); go_simp; (try with_reducible rfl))
          try simp only [Act.put, List.setIfInBounds_toArray, List.set_cons_zero, List.set_cons_succ]
          refine wpAnyH_take (i := 15) (oi := { dst := some 43, op := _, type := _, pos := _, after := _, guard := _ }) (v := ?v1013) rfl (by kernel_rfl) (by kernel_rfl) (by kernel_rfl) (fun _ _ _ h => h) (Or.inl ⟨by rfl, ?hy1013⟩) (by assumption) ?rest1013
          case hy1013 => (intro w hSw; (try dsimp only at hSw); go_simp; (try with_reducible rfl))
          try simp only [Act.put, List.setIfInBounds_toArray, List.set_cons_zero, List.set_cons_succ]
          refine wpAnyH_take (i := 16) (oi := { dst := some 44, op := _, type := _, pos := _, after := _, guard := _ }) (v := ?v1014) rfl (by kernel_rfl) (by kernel_rfl) (by kernel_rfl) (fun _ _ _ h => h) (Or.inl ⟨by rfl, ?hy1014⟩) (by assumption) ?rest1014
          case hy1014 => (intro w hSw; (try dsimp only at hSw); go_simp; (try with_reducible rfl))
          try simp only [Act.put, List.setIfInBounds_toArray, List.set_cons_zero, List.set_cons_succ]
          refine wpAnyH_ready (rs := [2]) (by kernel_rfl) (by simp) ?_
          refine (AllReadyH.cons (o := { dst := some 30, op := _, type := _, pos := _, after := _, guard := _ }) rfl (fun K hK => ?_) AllReadyH.nil)
          · go_simp
            (go_at_call 38; refine (HI0.out _ (by first | exact Ext.refl _ | exact (Ext.refl _).alloc _ | exact (Ext.refl _).drew | exact ((Ext.refl _).alloc _).drew | exact ((Ext.refl _).drew).alloc _)).mono ?_; rintro e w2 ⟨rfl, hx2⟩; have HX2 : Hid (Ext wb w2) := Lib.hid (Ext.trans (by first | exact Ext.refl _ | exact (Ext.refl _).alloc _ | exact (Ext.refl _).drew | exact ((Ext.refl _).alloc _).drew | exact ((Ext.refl _).drew).alloc _) hx2))
            go_wp2_with fail
            refine hK.out _ _ ?_ (fun hHeld => ?_)
            · exact ⟨Ext.cell hx2 hHeld.1, Ext.cell hx2 hHeld.2.1, Ext.cell hx2 hHeld.2.2.1, Ext.cell hx2 hHeld.2.2.2⟩
            clear hK K
            try simp only [Act.put, List.setIfInBounds_toArray, List.set_cons_zero, List.set_cons_succ]
            refine wpAnyH_ready (rs := [5]) (by kernel_rfl) (by simp) ?_
            refine (AllReadyH.cons (o := { dst := some 33, op := _, type := _, pos := _, after := _, guard := _ }) rfl (fun K hK => ?_) AllReadyH.nil)
            · go_simp
              (go_at_call 38; refine (HI1.out _ (HX2.out.trans (by first | exact Ext.refl _ | exact (Ext.refl _).alloc _ | exact (Ext.refl _).drew | exact ((Ext.refl _).alloc _).drew | exact ((Ext.refl _).drew).alloc _))).mono ?_; rintro e w5 ⟨rfl, hx5⟩; have HX5 : Hid (Ext wb w5) := Lib.hid (Ext.trans (HX2.out.trans (by first | exact Ext.refl _ | exact (Ext.refl _).alloc _ | exact (Ext.refl _).drew | exact ((Ext.refl _).alloc _).drew | exact ((Ext.refl _).drew).alloc _)) hx5))
              go_wp2_with fail
              refine hK.out _ _ ?_ (fun hHeld => ?_)
              · exact ⟨Ext.cell hx5 hHeld.1, Ext.cell hx5 hHeld.2.1, Ext.cell hx5 hHeld.2.2.1, Ext.cell hx5 hHeld.2.2.2⟩
              clear hK K
              try simp only [Act.put, List.setIfInBounds_toArray, List.set_cons_zero, List.set_cons_succ]
              refine wpAnyH_ready (rs := [8]) (by kernel_rfl) (by simp) ?_
              refine (AllReadyH.cons (o := { dst := some 36, op := _, type := _, pos := _, after := _, guard := _ }) rfl (fun K hK => ?_) AllReadyH.nil)
              · go_simp
                (go_at_call 38; refine (HI2.out _ (HX5.out.trans (by first | exact Ext.refl _ | exact (Ext.refl _).alloc _ | exact (Ext.refl _).drew | exact ((Ext.refl _).alloc _).drew | exact ((Ext.refl _).drew).alloc _))).mono ?_; rintro e w8 ⟨rfl, hx8⟩; have HX8 : Hid (Ext wb w8) := Lib.hid (Ext.trans (HX5.out.trans (by first | exact Ext.refl _ | exact (Ext.refl _).alloc _ | exact (Ext.refl _).drew | exact ((Ext.refl _).alloc _).drew | exact ((Ext.refl _).drew).alloc _)) hx8))
                go_wp2_with fail
                refine hK.out _ _ ?_ (fun hHeld => ?_)
                · exact ⟨Ext.cell hx8 hHeld.1, Ext.cell hx8 hHeld.2.1, Ext.cell hx8 hHeld.2.2.1, Ext.cell hx8 hHeld.2.2.2⟩
                clear hK K
                try simp only [Act.put, List.setIfInBounds_toArray, List.set_cons_zero, List.set_cons_succ]
                refine wpAnyH_ready (rs := [17]) (by kernel_rfl) (by simp) ?_
                refine (AllReadyH.cons (o := { dst := some 45, op := _, type := _, pos := _, after := _, guard := _ }) rfl (fun K hK => ?_) AllReadyH.nil)
                · go_simp
                  refine hK.out _ _ ?_ (fun hHeld => ?_)
                  · exact ⟨Ext.cell (by first | exact Ext.refl _ | exact (Ext.refl _).alloc _ | exact (Ext.refl _).drew | exact ((Ext.refl _).alloc _).drew | exact ((Ext.refl _).drew).alloc _) hHeld.1, Ext.cell (by first | exact Ext.refl _ | exact (Ext.refl _).alloc _ | exact (Ext.refl _).drew | exact ((Ext.refl _).alloc _).drew | exact ((Ext.refl _).drew).alloc _) hHeld.2.1, Ext.cell (by first | exact Ext.refl _ | exact (Ext.refl _).alloc _ | exact (Ext.refl _).drew | exact ((Ext.refl _).alloc _).drew | exact ((Ext.refl _).drew).alloc _) hHeld.2.2.1, Ext.cell (by first | exact Ext.refl _ | exact (Ext.refl _).alloc _ | exact (Ext.refl _).drew | exact ((Ext.refl _).alloc _).drew | exact ((Ext.refl _).drew).alloc _) hHeld.2.2.2⟩
                  clear hK K
                  try simp only [Act.put, List.setIfInBounds_toArray, List.set_cons_zero, List.set_cons_succ]
                  refine wpAnyH_take (i := 18) (oi := { dst := some 9, op := _, type := _, pos := _, after := _, guard := _ }) (v := ?v1015) rfl (by kernel_rfl) (by kernel_rfl) (by kernel_rfl) (fun _ _ _ h => h) (Or.inl ⟨by rfl, ?hy1015⟩) (by assumption) ?rest1015
                  case hy1015 => (intro w hSw; (try dsimp only at hSw); go_simp; (try with_reducible rfl))
                  try simp only [Act.put, List.setIfInBounds_toArray, List.set_cons_zero, List.set_cons_succ]
                  refine wpAnyH_done (by kernel_rfl) ?_ _
                  go_wp2_with fail
                  go_meet
                  exact ⟨_, _, rfl, by first | exact heap_alloc_new _ _ | exact heap_alloc_new (World.drew _) _, Lib.hid (by rw [HMV.out]; kernel_rfl), HX8.out.trans (by first | exact Ext.refl _ | exact (Ext.refl _).alloc _ | exact (Ext.refl _).drew | exact ((Ext.refl _).alloc _).drew | exact ((Ext.refl _).drew).alloc _)⟩
        · have HMV := Lib.hid hm
          have y3 : wb.cell? ⟨gr, 3, none⟩ = some (.int .i64 (0)) := by rw [y3', hm]
          clear y3' hm
          refine wp_region_held_drew (S := (fun w' => w'.cell? ⟨gr, 0, none⟩ = some (.int .i64 r.st) ∧ w'.cell? ⟨gr, 1, none⟩ = some (.int .i64 r.sy) ∧ w'.cell? ⟨gr, 2, none⟩ = some (.int .i64 r.wr) ∧ w'.cell? ⟨gr, 3, none⟩ = some (.int .i64 (0)))) (by kernel_rfl) ?_ (fun hHeld => ?_)
          · exact ⟨y0, y1, y2, y3⟩
          refine wpAnyH_take (i := 0) (oi := { dst := some 28, op := _, type := _, pos := _, after := _, guard := _ }) (v := ?v2001) rfl (by kernel_rfl) (by kernel_rfl) (by kernel_rfl) (fun _ _ _ h => h) (Or.inl ⟨by rfl, ?hy2001⟩) (by assumption) ?rest2001
          case hy2001 => (intro w hSw; (try dsimp only at hSw); go_simp; (try with_reducible rfl))
          try simp only [Act.put, List.setIfInBounds_toArray, List.set_cons_zero, List.set_cons_succ]
          refine wpAnyH_take (i := 1) (oi := { dst := some 29, op := _, type := _, pos := _, after := _, guard := _ }) (v := ?v2002) rfl (by kernel_rfl) (by kernel_rfl) (by kernel_rfl) (fun _ _ _ h => h) (Or.inl ⟨by rfl, ?hy2002⟩) (by assumption) ?rest2002
          case hy2002 => (intro w hSw; (try dsimp only at hSw); go_simp; (try with_reducible rfl))
          try simp only [Act.put, List.setIfInBounds_toArray, List.set_cons_zero, List.set_cons_succ]
          refine wpAnyH_take (i := 3) (oi := { dst := some 31, op := _, type := _, pos := _, after := _, guard := _ }) (v := ?v2003) rfl (by kernel_rfl) (by kernel_rfl) (by kernel_rfl) (fun _ _ _ h => h) (Or.inl ⟨by rfl, ?hy2003⟩) (by assumption) ?rest2003
          case hy2003 => (intro w hSw; (try dsimp only at hSw); go_simp; (try with_reducible rfl))
          try simp only [Act.put, List.setIfInBounds_toArray, List.set_cons_zero, List.set_cons_succ]
          refine wpAnyH_take (i := 4) (oi := { dst := some 32, op := _, type := _, pos := _, after := _, guard := _ }) (v := ?v2004) rfl (by kernel_rfl) (by kernel_rfl) (by kernel_rfl) (fun _ _ _ h => h) (Or.inl ⟨by rfl, ?hy2004⟩) (by assumption) ?rest2004
          case hy2004 => (intro w hSw; (try dsimp only at hSw); go_simp; (try with_reducible rfl))
          try simp only [Act.put, List.setIfInBounds_toArray, List.set_cons_zero, List.set_cons_succ]
          refine wpAnyH_take (i := 6) (oi := { dst := some 34, op := _, type := _, pos := _, after := _, guard := _ }) (v := ?v2005) rfl (by kernel_rfl) (by kernel_rfl) (by kernel_rfl) (fun _ _ _ h => h) (Or.inl ⟨by rfl, ?hy2005⟩) (by assumption) ?rest2005
          case hy2005 => (intro w hSw; (try dsimp only at hSw); go_simp; (try with_reducible rfl))
          try simp only [Act.put, List.setIfInBounds_toArray, List.set_cons_zero, List.set_cons_succ]
          refine wpAnyH_take (i := 7) (oi := { dst := some 35, op := _, type := _, pos := _, after := _, guard := _ }) (v := ?v2006) rfl (by kernel_rfl) (by kernel_rfl) (by kernel_rfl) (fun _ _ _ h => h) (Or.inl ⟨by rfl, ?hy2006⟩) (by assumption) ?rest2006
          case hy2006 => (intro w hSw; (try dsimp only at hSw); go_simp; (try with_reducible rfl))
          try simp only [Act.put, List.setIfInBounds_toArray, List.set_cons_zero, List.set_cons_succ]
          refine wpAnyH_take (i := 9) (oi := { dst := some 37, op := _, type := _, pos := _, after := _, guard := _ }) (v := ?v2007) rfl (by kernel_rfl) (by kernel_rfl) (by kernel_rfl) (fun _ _ _ h => h) (Or.inl ⟨by rfl, ?hy2007⟩) (by assumption) ?rest2007
          case hy2007 => (intro w hSw; (try dsimp only at hSw); go_simp; (try with_reducible rfl))
          try simp only [Act.put, List.setIfInBounds_toArray, List.set_cons_zero, List.set_cons_succ]
          refine wpAnyH_take (i := 10) (oi := { dst := some 38, op := _, type := _, pos := _, after := _, guard := _ }) (v := ?v2008) rfl (by kernel_rfl) (by kernel_rfl) (by kernel_rfl) (fun _ _ _ h => h) (Or.inl ⟨by rfl, ?hy2008⟩) (by assumption) ?rest2008
          case hy2008 => (intro w hSw; (try dsimp only at hSw); go_simp; (try with_reducible rfl))
          try simp only [Act.put, List.setIfInBounds_toArray, List.set_cons_zero, List.set_cons_succ]
          refine wpAnyH_take (i := 11) (oi := { dst := some 39, op := _, type := _, pos := _, after := _, guard := _ }) (v := ?v2009) rfl (by kernel_rfl) (by kernel_rfl) (by kernel_rfl) (fun _ _ _ h => h) (Or.inl ⟨by rfl, ?hy2009⟩) (by assumption) ?rest2009
          case hy2009 => (intro w hSw; (try dsimp only at hSw); go_simp; (try with_reducible rfl))
          try simp only [Act.put, List.setIfInBounds_toArray, List.set_cons_zero, List.set_cons_succ]
          refine wpAnyH_take (i := 12) (oi := { dst := some 40, op := _, type := _, pos := _, after := _, guard := _ }) (v := ?v2010) rfl (by kernel_rfl) (by kernel_rfl) (by kernel_rfl) (fun _ _ _ h => h) (Or.inl ⟨by rfl, ?hy2010⟩) (by assumption) ?rest2010
          case hy2010 => (intro w hSw; (try dsimp only at hSw); go_simp; (try with_reducible rfl))
          try simp only [Act.put, List.setIfInBounds_toArray, List.set_cons_zero, List.set_cons_succ]
          refine wpAnyH_take (i := 13) (oi := { dst := some 41, op := _, type := _, pos := _, after := _, guard := _ }) (v := ?v2011) rfl (by kernel_rfl) (by kernel_rfl) (by kernel_rfl) (fun _ _ _ h => h) (Or.inl ⟨by rfl, ?hy2011⟩) (by assumption) ?rest2011
          case hy2011 => (intro w hSw; (try dsimp only at hSw); go_simp; (try with_reducible rfl))
          try simp only [Act.put, List.setIfInBounds_toArray, List.set_cons_zero, List.set_cons_succ]
          refine wpAnyH_take (i := 14) (oi := { dst := some 42, op := _, type := _, pos := _, after := _, guard := _ }) (v := ?v2012) rfl (by kernel_rfl) (by kernel_rfl) (by kernel_rfl) (fun _ _ _ h => h) (Or.inl ⟨by rfl, ?hy2012⟩) (by assumption) ?rest2012
          case hy2012 => (intro w hSw; (try dsimp only at hSw); go_simp; (try with_reducible rfl))
          try simp only [Act.put, List.setIfInBounds_toArray, List.set_cons_zero, List.set_cons_succ]
          refine wpAnyH_take (i := 15) (oi := { dst := some 43, op := _, type := _, pos := _, after := _, guard := _ }) (v := ?v2013) rfl (by kernel_rfl) (by kernel_rfl) (by kernel_rfl) (fun _ _ _ h => h) (Or.inl ⟨by rfl, ?hy2013⟩) (by assumption) ?rest2013
          case hy2013 => (intro w hSw; (try dsimp only at hSw); go_simp; (try with_reducible rfl))
          try simp only [Act.put, List.setIfInBounds_toArray, List.set_cons_zero, List.set_cons_succ]
          refine wpAnyH_take (i := 16) (oi := { dst := some 44, op := _, type := _, pos := _, after := _, guard := _ }) (v := ?v2014) rfl (by kernel_rfl) (by kernel_rfl) (by kernel_rfl) (fun _ _ _ h => h) (Or.inl ⟨by rfl, ?hy2014⟩) (by assumption) ?rest2014
          case hy2014 => (intro w hSw; (try dsimp only at hSw); go_simp; (try with_reducible rfl))
          try simp only [Act.put, List.setIfInBounds_toArray, List.set_cons_zero, List.set_cons_succ]
          refine wpAnyH_ready (rs := [2]) (by kernel_rfl) (by simp) ?_
          refine (AllReadyH.cons (o := { dst := some 30, op := _, type := _, pos := _, after := _, guard := _ }) rfl (fun K hK => ?_) AllReadyH.nil)
          · go_simp
            (go_at_call 38; refine (HI0.out _ (by first | exact Ext.refl _ | exact (Ext.refl _).alloc _ | exact (Ext.refl _).drew | exact ((Ext.refl _).alloc _).drew | exact ((Ext.refl _).drew).alloc _)).mono ?_; rintro e w2 ⟨rfl, hx2⟩; have HX2 : Hid (Ext wb w2) := Lib.hid (Ext.trans (by first | exact Ext.refl _ | exact (Ext.refl _).alloc _ | exact (Ext.refl _).drew | exact ((Ext.refl _).alloc _).drew | exact ((Ext.refl _).drew).alloc _) hx2))
            go_wp2_with fail
            refine hK.out _ _ ?_ (fun hHeld => ?_)
            · exact ⟨Ext.cell hx2 hHeld.1, Ext.cell hx2 hHeld.2.1, Ext.cell hx2 hHeld.2.2.1, Ext.cell hx2 hHeld.2.2.2⟩
            clear hK K
            try simp only [Act.put, List.setIfInBounds_toArray, List.set_cons_zero, List.set_cons_succ]
            refine wpAnyH_ready (rs := [5]) (by kernel_rfl) (by simp) ?_
            refine (AllReadyH.cons (o := { dst := some 33, op := _, type := _, pos := _, after := _, guard := _ }) rfl (fun K hK => ?_) AllReadyH.nil)
            · go_simp
              (go_at_call 38; refine (HI1.out _ (HX2.out.trans (by first | exact Ext.refl _ | exact (Ext.refl _).alloc _ | exact (Ext.refl _).drew | exact ((Ext.refl _).alloc _).drew | exact ((Ext.refl _).drew).alloc _))).mono ?_; rintro e w5 ⟨rfl, hx5⟩; have HX5 : Hid (Ext wb w5) := Lib.hid (Ext.trans (HX2.out.trans (by first | exact Ext.refl _ | exact (Ext.refl _).alloc _ | exact (Ext.refl _).drew | exact ((Ext.refl _).alloc _).drew | exact ((Ext.refl _).drew).alloc _)) hx5))
              go_wp2_with fail
              refine hK.out _ _ ?_ (fun hHeld => ?_)
              · exact ⟨Ext.cell hx5 hHeld.1, Ext.cell hx5 hHeld.2.1, Ext.cell hx5 hHeld.2.2.1, Ext.cell hx5 hHeld.2.2.2⟩
              clear hK K
              try simp only [Act.put, List.setIfInBounds_toArray, List.set_cons_zero, List.set_cons_succ]
              refine wpAnyH_ready (rs := [8]) (by kernel_rfl) (by simp) ?_
              refine (AllReadyH.cons (o := { dst := some 36, op := _, type := _, pos := _, after := _, guard := _ }) rfl (fun K hK => ?_) AllReadyH.nil)
              · go_simp
                (go_at_call 38; refine (HI2.out _ (HX5.out.trans (by first | exact Ext.refl _ | exact (Ext.refl _).alloc _ | exact (Ext.refl _).drew | exact ((Ext.refl _).alloc _).drew | exact ((Ext.refl _).drew).alloc _))).mono ?_; rintro e w8 ⟨rfl, hx8⟩; have HX8 : Hid (Ext wb w8) := Lib.hid (Ext.trans (HX5.out.trans (by first | exact Ext.refl _ | exact (Ext.refl _).alloc _ | exact (Ext.refl _).drew | exact ((Ext.refl _).alloc _).drew | exact ((Ext.refl _).drew).alloc _)) hx8))
                go_wp2_with fail
                refine hK.out _ _ ?_ (fun hHeld => ?_)
                · exact ⟨Ext.cell hx8 hHeld.1, Ext.cell hx8 hHeld.2.1, Ext.cell hx8 hHeld.2.2.1, Ext.cell hx8 hHeld.2.2.2⟩
                clear hK K
                try simp only [Act.put, List.setIfInBounds_toArray, List.set_cons_zero, List.set_cons_succ]
                refine wpAnyH_ready (rs := [17]) (by kernel_rfl) (by simp) ?_
                refine (AllReadyH.cons (o := { dst := some 45, op := _, type := _, pos := _, after := _, guard := _ }) rfl (fun K hK => ?_) AllReadyH.nil)
                · go_simp
                  refine hK.out _ _ ?_ (fun hHeld => ?_)
                  · exact ⟨Ext.cell (by first | exact Ext.refl _ | exact (Ext.refl _).alloc _ | exact (Ext.refl _).drew | exact ((Ext.refl _).alloc _).drew | exact ((Ext.refl _).drew).alloc _) hHeld.1, Ext.cell (by first | exact Ext.refl _ | exact (Ext.refl _).alloc _ | exact (Ext.refl _).drew | exact ((Ext.refl _).alloc _).drew | exact ((Ext.refl _).drew).alloc _) hHeld.2.1, Ext.cell (by first | exact Ext.refl _ | exact (Ext.refl _).alloc _ | exact (Ext.refl _).drew | exact ((Ext.refl _).alloc _).drew | exact ((Ext.refl _).drew).alloc _) hHeld.2.2.1, Ext.cell (by first | exact Ext.refl _ | exact (Ext.refl _).alloc _ | exact (Ext.refl _).drew | exact ((Ext.refl _).alloc _).drew | exact ((Ext.refl _).drew).alloc _) hHeld.2.2.2⟩
                  clear hK K
                  try simp only [Act.put, List.setIfInBounds_toArray, List.set_cons_zero, List.set_cons_succ]
                  refine wpAnyH_take (i := 18) (oi := { dst := some 9, op := _, type := _, pos := _, after := _, guard := _ }) (v := ?v2015) rfl (by kernel_rfl) (by kernel_rfl) (by kernel_rfl) (fun _ _ _ h => h) (Or.inl ⟨by rfl, ?hy2015⟩) (by assumption) ?rest2015
                  case hy2015 => (intro w hSw; (try dsimp only at hSw); go_simp; (try with_reducible rfl))
                  try simp only [Act.put, List.setIfInBounds_toArray, List.set_cons_zero, List.set_cons_succ]
                  refine wpAnyH_done (by kernel_rfl) ?_ _
                  go_wp2_with fail
                  go_meet
                  exact ⟨_, _, rfl, by first | exact heap_alloc_new _ _ | exact heap_alloc_new (World.drew _) _, Lib.hid (by rw [HMV.out]; kernel_rfl), HX8.out.trans (by first | exact Ext.refl _ | exact (Ext.refl _).alloc _ | exact (Ext.refl _).drew | exact ((Ext.refl _).alloc _).drew | exact ((Ext.refl _).drew).alloc _)⟩
        · have HMV := Lib.hid hm
          have y3 : wb.cell? ⟨gr, 3, none⟩ = some (.int .i64 (1)) := by rw [y3', hm]
          clear y3' hm
          refine wp_region_held_drew (S := (fun w' => w'.cell? ⟨gr, 0, none⟩ = some (.int .i64 r.st) ∧ w'.cell? ⟨gr, 1, none⟩ = some (.int .i64 r.sy) ∧ w'.cell? ⟨gr, 2, none⟩ = some (.int .i64 r.wr) ∧ w'.cell? ⟨gr, 3, none⟩ = some (.int .i64 (1)))) (by kernel_rfl) ?_ (fun hHeld => ?_)
          · exact ⟨y0, y1, y2, y3⟩
          refine wpAnyH_take (i := 0) (oi := { dst := some 28, op := _, type := _, pos := _, after := _, guard := _ }) (v := ?v3001) rfl (by kernel_rfl) (by kernel_rfl) (by kernel_rfl) (fun _ _ _ h => h) (Or.inl ⟨by rfl, ?hy3001⟩) (by assumption) ?rest3001
          case hy3001 => (intro w hSw; (try dsimp only at hSw); go_simp; (try with_reducible rfl))
          try simp only [Act.put, List.setIfInBounds_toArray, List.set_cons_zero, List.set_cons_succ]
          refine wpAnyH_take (i := 1) (oi := { dst := some 29, op := _, type := _, pos := _, after := _, guard := _ }) (v := ?v3002) rfl (by kernel_rfl) (by kernel_rfl) (by kernel_rfl) (fun _ _ _ h => h) (Or.inl ⟨by rfl, ?hy3002⟩) (by assumption) ?rest3002
          case hy3002 => (intro w hSw; (try dsimp only at hSw); go_simp; (try with_reducible rfl))
          try simp only [Act.put, List.setIfInBounds_toArray, List.set_cons_zero, List.set_cons_succ]
          refine wpAnyH_take (i := 3) (oi := { dst := some 31, op := _, type := _, pos := _, after := _, guard := _ }) (v := ?v3003) rfl (by kernel_rfl) (by kernel_rfl) (by kernel_rfl) (fun _ _ _ h => h) (Or.inl ⟨by rfl, ?hy3003⟩) (by assumption) ?rest3003
          case hy3003 => (intro w hSw; (try dsimp only at hSw); go_simp; (try with_reducible rfl))
          try simp only [Act.put, List.setIfInBounds_toArray, List.set_cons_zero, List.set_cons_succ]
          refine wpAnyH_take (i := 4) (oi := { dst := some 32, op := _, type := _, pos := _, after := _, guard := _ }) (v := ?v3004) rfl (by kernel_rfl) (by kernel_rfl) (by kernel_rfl) (fun _ _ _ h => h) (Or.inl ⟨by rfl, ?hy3004⟩) (by assumption) ?rest3004
          case hy3004 => (intro w hSw; (try dsimp only at hSw); go_simp; (try with_reducible rfl))
          try simp only [Act.put, List.setIfInBounds_toArray, List.set_cons_zero, List.set_cons_succ]
          refine wpAnyH_take (i := 6) (oi := { dst := some 34, op := _, type := _, pos := _, after := _, guard := _ }) (v := ?v3005) rfl (by kernel_rfl) (by kernel_rfl) (by kernel_rfl) (fun _ _ _ h => h) (Or.inl ⟨by rfl, ?hy3005⟩) (by assumption) ?rest3005
          case hy3005 => (intro w hSw; (try dsimp only at hSw); go_simp; (try with_reducible rfl))
          try simp only [Act.put, List.setIfInBounds_toArray, List.set_cons_zero, List.set_cons_succ]
          refine wpAnyH_take (i := 7) (oi := { dst := some 35, op := _, type := _, pos := _, after := _, guard := _ }) (v := ?v3006) rfl (by kernel_rfl) (by kernel_rfl) (by kernel_rfl) (fun _ _ _ h => h) (Or.inl ⟨by rfl, ?hy3006⟩) (by assumption) ?rest3006
          case hy3006 => (intro w hSw; (try dsimp only at hSw); go_simp; (try with_reducible rfl))
          try simp only [Act.put, List.setIfInBounds_toArray, List.set_cons_zero, List.set_cons_succ]
          refine wpAnyH_take (i := 9) (oi := { dst := some 37, op := _, type := _, pos := _, after := _, guard := _ }) (v := ?v3007) rfl (by kernel_rfl) (by kernel_rfl) (by kernel_rfl) (fun _ _ _ h => h) (Or.inl ⟨by rfl, ?hy3007⟩) (by assumption) ?rest3007
          case hy3007 => (intro w hSw; (try dsimp only at hSw); go_simp; (try with_reducible rfl))
          try simp only [Act.put, List.setIfInBounds_toArray, List.set_cons_zero, List.set_cons_succ]
          refine wpAnyH_take (i := 10) (oi := { dst := some 38, op := _, type := _, pos := _, after := _, guard := _ }) (v := ?v3008) rfl (by kernel_rfl) (by kernel_rfl) (by kernel_rfl) (fun _ _ _ h => h) (Or.inl ⟨by rfl, ?hy3008⟩) (by assumption) ?rest3008
          case hy3008 => (intro w hSw; (try dsimp only at hSw); go_simp; (try with_reducible rfl))
          try simp only [Act.put, List.setIfInBounds_toArray, List.set_cons_zero, List.set_cons_succ]
          refine wpAnyH_take (i := 11) (oi := { dst := some 39, op := _, type := _, pos := _, after := _, guard := _ }) (v := ?v3009) rfl (by kernel_rfl) (by kernel_rfl) (by kernel_rfl) (fun _ _ _ h => h) (Or.inl ⟨by rfl, ?hy3009⟩) (by assumption) ?rest3009
          case hy3009 => (intro w hSw; (try dsimp only at hSw); go_simp; (try with_reducible rfl))
          try simp only [Act.put, List.setIfInBounds_toArray, List.set_cons_zero, List.set_cons_succ]
          refine wpAnyH_take (i := 12) (oi := { dst := some 40, op := _, type := _, pos := _, after := _, guard := _ }) (v := ?v3010) rfl (by kernel_rfl) (by kernel_rfl) (by kernel_rfl) (fun _ _ _ h => h) (Or.inl ⟨by rfl, ?hy3010⟩) (by assumption) ?rest3010
          case hy3010 => (intro w hSw; (try dsimp only at hSw); go_simp; (try with_reducible rfl))
          try simp only [Act.put, List.setIfInBounds_toArray, List.set_cons_zero, List.set_cons_succ]
          refine wpAnyH_take (i := 13) (oi := { dst := some 41, op := _, type := _, pos := _, after := _, guard := _ }) (v := ?v3011) rfl (by kernel_rfl) (by kernel_rfl) (by kernel_rfl) (fun _ _ _ h => h) (Or.inl ⟨by rfl, ?hy3011⟩) (by assumption) ?rest3011
          case hy3011 => (intro w hSw; (try dsimp only at hSw); go_simp; (try with_reducible rfl))
          try simp only [Act.put, List.setIfInBounds_toArray, List.set_cons_zero, List.set_cons_succ]
          refine wpAnyH_take (i := 14) (oi := { dst := some 42, op := _, type := _, pos := _, after := _, guard := _ }) (v := ?v3012) rfl (by kernel_rfl) (by kernel_rfl) (by kernel_rfl) (fun _ _ _ h => h) (Or.inl ⟨by rfl, ?hy3012⟩) (by assumption) ?rest3012
          case hy3012 => (intro w hSw; (try dsimp only at hSw); go_simp; (try with_reducible rfl))
          try simp only [Act.put, List.setIfInBounds_toArray, List.set_cons_zero, List.set_cons_succ]
          refine wpAnyH_take (i := 15) (oi := { dst := some 43, op := _, type := _, pos := _, after := _, guard := _ }) (v := ?v3013) rfl (by kernel_rfl) (by kernel_rfl) (by kernel_rfl) (fun _ _ _ h => h) (Or.inl ⟨by rfl, ?hy3013⟩) (by assumption) ?rest3013
          case hy3013 => (intro w hSw; (try dsimp only at hSw); go_simp; (try with_reducible rfl))
          try simp only [Act.put, List.setIfInBounds_toArray, List.set_cons_zero, List.set_cons_succ]
          refine wpAnyH_take (i := 16) (oi := { dst := some 44, op := _, type := _, pos := _, after := _, guard := _ }) (v := ?v3014) rfl (by kernel_rfl) (by kernel_rfl) (by kernel_rfl) (fun _ _ _ h => h) (Or.inl ⟨by rfl, ?hy3014⟩) (by assumption) ?rest3014
          case hy3014 => (intro w hSw; (try dsimp only at hSw); go_simp; (try with_reducible rfl))
          try simp only [Act.put, List.setIfInBounds_toArray, List.set_cons_zero, List.set_cons_succ]
          refine wpAnyH_ready (rs := [2]) (by kernel_rfl) (by simp) ?_
          refine (AllReadyH.cons (o := { dst := some 30, op := _, type := _, pos := _, after := _, guard := _ }) rfl (fun K hK => ?_) AllReadyH.nil)
          · go_simp
            (go_at_call 38; refine (HI0.out _ (by first | exact Ext.refl _ | exact (Ext.refl _).alloc _ | exact (Ext.refl _).drew | exact ((Ext.refl _).alloc _).drew | exact ((Ext.refl _).drew).alloc _)).mono ?_; rintro e w2 ⟨rfl, hx2⟩; have HX2 : Hid (Ext wb w2) := Lib.hid (Ext.trans (by first | exact Ext.refl _ | exact (Ext.refl _).alloc _ | exact (Ext.refl _).drew | exact ((Ext.refl _).alloc _).drew | exact ((Ext.refl _).drew).alloc _) hx2))
            go_wp2_with fail
            refine hK.out _ _ ?_ (fun hHeld => ?_)
            · exact ⟨Ext.cell hx2 hHeld.1, Ext.cell hx2 hHeld.2.1, Ext.cell hx2 hHeld.2.2.1, Ext.cell hx2 hHeld.2.2.2⟩
            clear hK K
            try simp only [Act.put, List.setIfInBounds_toArray, List.set_cons_zero, List.set_cons_succ]
            refine wpAnyH_ready (rs := [5]) (by kernel_rfl) (by simp) ?_
            refine (AllReadyH.cons (o := { dst := some 33, op := _, type := _, pos := _, after := _, guard := _ }) rfl (fun K hK => ?_) AllReadyH.nil)
            · go_simp
              (go_at_call 38; refine (HI1.out _ (HX2.out.trans (by first | exact Ext.refl _ | exact (Ext.refl _).alloc _ | exact (Ext.refl _).drew | exact ((Ext.refl _).alloc _).drew | exact ((Ext.refl _).drew).alloc _))).mono ?_; rintro e w5 ⟨rfl, hx5⟩; have HX5 : Hid (Ext wb w5) := Lib.hid (Ext.trans (HX2.out.trans (by first | exact Ext.refl _ | exact (Ext.refl _).alloc _ | exact (Ext.refl _).drew | exact ((Ext.refl _).alloc _).drew | exact ((Ext.refl _).drew).alloc _)) hx5))
              go_wp2_with fail
              refine hK.out _ _ ?_ (fun hHeld => ?_)
              · exact ⟨Ext.cell hx5 hHeld.1, Ext.cell hx5 hHeld.2.1, Ext.cell hx5 hHeld.2.2.1, Ext.cell hx5 hHeld.2.2.2⟩
              clear hK K
              try simp only [Act.put, List.setIfInBounds_toArray, List.set_cons_zero, List.set_cons_succ]
              refine wpAnyH_ready (rs := [8]) (by kernel_rfl) (by simp) ?_
              refine (AllReadyH.cons (o := { dst := some 36, op := _, type := _, pos := _, after := _, guard := _ }) rfl (fun K hK => ?_) AllReadyH.nil)
              · go_simp
                (go_at_call 38; refine (HI2.out _ (HX5.out.trans (by first | exact Ext.refl _ | exact (Ext.refl _).alloc _ | exact (Ext.refl _).drew | exact ((Ext.refl _).alloc _).drew | exact ((Ext.refl _).drew).alloc _))).mono ?_; rintro e w8 ⟨rfl, hx8⟩; have HX8 : Hid (Ext wb w8) := Lib.hid (Ext.trans (HX5.out.trans (by first | exact Ext.refl _ | exact (Ext.refl _).alloc _ | exact (Ext.refl _).drew | exact ((Ext.refl _).alloc _).drew | exact ((Ext.refl _).drew).alloc _)) hx8))
                go_wp2_with fail
                refine hK.out _ _ ?_ (fun hHeld => ?_)
                · exact ⟨Ext.cell hx8 hHeld.1, Ext.cell hx8 hHeld.2.1, Ext.cell hx8 hHeld.2.2.1, Ext.cell hx8 hHeld.2.2.2⟩
                clear hK K
                try simp only [Act.put, List.setIfInBounds_toArray, List.set_cons_zero, List.set_cons_succ]
                refine wpAnyH_ready (rs := [17]) (by kernel_rfl) (by simp) ?_
                refine (AllReadyH.cons (o := { dst := some 45, op := _, type := _, pos := _, after := _, guard := _ }) rfl (fun K hK => ?_) AllReadyH.nil)
                · go_simp
                  refine hK.out _ _ ?_ (fun hHeld => ?_)
                  · exact ⟨Ext.cell (by first | exact Ext.refl _ | exact (Ext.refl _).alloc _ | exact (Ext.refl _).drew | exact ((Ext.refl _).alloc _).drew | exact ((Ext.refl _).drew).alloc _) hHeld.1, Ext.cell (by first | exact Ext.refl _ | exact (Ext.refl _).alloc _ | exact (Ext.refl _).drew | exact ((Ext.refl _).alloc _).drew | exact ((Ext.refl _).drew).alloc _) hHeld.2.1, Ext.cell (by first | exact Ext.refl _ | exact (Ext.refl _).alloc _ | exact (Ext.refl _).drew | exact ((Ext.refl _).alloc _).drew | exact ((Ext.refl _).drew).alloc _) hHeld.2.2.1, Ext.cell (by first | exact Ext.refl _ | exact (Ext.refl _).alloc _ | exact (Ext.refl _).drew | exact ((Ext.refl _).alloc _).drew | exact ((Ext.refl _).drew).alloc _) hHeld.2.2.2⟩
                  clear hK K
                  try simp only [Act.put, List.setIfInBounds_toArray, List.set_cons_zero, List.set_cons_succ]
                  refine wpAnyH_take (i := 18) (oi := { dst := some 9, op := _, type := _, pos := _, after := _, guard := _ }) (v := ?v3015) rfl (by kernel_rfl) (by kernel_rfl) (by kernel_rfl) (fun _ _ _ h => h) (Or.inl ⟨by rfl, ?hy3015⟩) (by assumption) ?rest3015
                  case hy3015 => (intro w hSw; (try dsimp only at hSw); go_simp; (try with_reducible rfl))
                  try simp only [Act.put, List.setIfInBounds_toArray, List.set_cons_zero, List.set_cons_succ]
                  refine wpAnyH_done (by kernel_rfl) ?_ _
                  go_wp2_with fail
                  go_meet
                  exact ⟨_, _, rfl, by first | exact heap_alloc_new _ _ | exact heap_alloc_new (World.drew _) _, Lib.hid (by rw [HMV.out]; kernel_rfl), HX8.out.trans (by first | exact Ext.refl _ | exact (Ext.refl _).alloc _ | exact (Ext.refl _).drew | exact ((Ext.refl _).alloc _).drew | exact ((Ext.refl _).drew).alloc _)⟩
      obtain ⟨gs, q3, rfl, hgs, hq3, hxc⟩ := hcut
      obtain ⟨wd, rfl⟩ : ∃ wd : World, wd = wc := ⟨_, rfl⟩
      have e3 := hq3.out
      subst e3
      have e4 := HNB.out
      subst e4
      have HGS := Lib.hid hgs
      have HXD := Lib.hid (HXA.out.trans (HXB.out.trans hxc))
      have hgl : gs < wd.heap.size := (Array.getElem?_eq_some_iff.1 hgs).1
      have hbl := body_len HRF.out
      have HJ := Lib.hid (join_c HRF.out gs wd hgs hgl)
      have hcs : (strOfNums (Tape.bodyR r)).size ≤ 13 := by rw [strOfNums_size]; exact hbl
      have HEQ : Hid (b ++ (strOfNums (Tape.bodyR r) ++ (⟨#[10]⟩ : ByteArray)) = strOfNums (Tape.textR (L.take (k + 1)))) := Lib.hid (by rw [HHB.out, HSN.out, strOfNums_nl, strOfNums_append, strOfNums_append])
      have hk64 : k < 64 := by omega
      clear hgs hxc hq3 hbl
      generalize strOfNums (Tape.bodyR r) = C at *
      go_wp2_with (go_at_call 39; refine HJ.out.mono ?_; rintro e w2 ⟨rfl, hx2⟩)
      go_roundw
      case rel =>
        refine ⟨k + 1, _, by omega, by go_num, rfl, Lib.hid HEQ.out, ?_, HXD.out.trans hx2⟩
        rw [ByteArray.size_append, ByteArray.size_append]
        show _ + (_ + 1) ≤ _
        omega
      case measure => simp [intOf]; omega
    · have hke : k = n := by omega
      have HFT : Hid (b = strOfNums (Tape.textR L)) := Lib.hid (by rw [HHB.out, hke, ← HN.out, List.take_length])
      have HBR := Lib.hid (ext_heap HXR.out HBK.out)
      have hb := Blk2.mk' HBR.out
      obtain ⟨c0, c1, f0, f1⟩ := hb
      clear hke
      go_wp2
      refine bodyPost_ret (results_tc Tryz.results17 _ _ w.heap.size 27 #[.int .i64 0, .int .i64 0] (0, 0) _ rfl (fblk_set HBR.out) Tryz.underlying27 rfl sizeF) rfl (wret HFT.out (ext_set2 (HX.out.trans HXR.out) (Nat.le_refl _) _ _))
theorem writeT_all (A : Option Addr) (L : List Rule) (c' : Nat) (w : World) (hl : L.length ≤ maxLen) (h1 : Rls w A L) (hwf : ∀ r ∈ L, RuleWf r) (ht : TabT w) : Calls Tryz.prog 17 #[.slice A L.length c'] w (WRet w (writeT L)) := by
  by_cases hf : faultR L = (0, 0)
  · exact writeT_good A L c' w hl h1 hwf hf ht
  · exact writeT_bad A L c' w hl h1 hwf hf
end Go.Proofs.YtbaahbpianingaaGreatDoor
