import Derived.Test.YtbaahbpianingaaGreatDoorMg23
namespace Go.Proofs.YtbaahbpianingaaGreatDoor
open Go Go.Proofs Go.RowKit
open Tape (Rule Ts splitP)
set_option maxHeartbeats 12800000
set_option maxRecDepth 100000
def mvS (m : Int) : ByteArray := if m = -1 then ⟨#[76]⟩ else if m = 0 then ⟨#[83]⟩ else ⟨#[82]⟩
theorem mvS_is (m : Int) : mvS m = strOfNums [Tape.moveC m] := by
  unfold mvS Tape.moveC
  split
  · rfl
  · split <;> rfl
theorem line_is {L : List Rule} {k : Nat} {r : Rule} {m0 m1 m2 : Nat} {b : ByteArray} (h : L[k]? = some r) (h0 : r.st = m0) (h1 : r.sy = m1) (h2 : r.wr = m2) (hb : b = strOfNums (Tape.textR (L.take k))) :
    b ++ strOfNums (Acc.dec m0) ++ (⟨#[32]⟩ : ByteArray) ++ strOfNums (Acc.dec m1) ++ (⟨#[32]⟩ : ByteArray) ++ strOfNums (Acc.dec m2) ++ (⟨#[32]⟩ : ByteArray) ++ mvS r.mv ++ (⟨#[32]⟩ : ByteArray) ++ strOfNums (Tape.nextF r.nx) ++ (⟨#[10]⟩ : ByteArray) = strOfNums (Tape.textR (L.take (k + 1))) := by
  have e1 : (⟨#[32]⟩ : ByteArray) = strOfNums [32] := rfl
  have e2 : (⟨#[10]⟩ : ByteArray) = strOfNums [10] := rfl
  rw [text_snoc h, mvS_is, hb, e1, e2]
  unfold Tape.bodyR
  rw [h0, h1, h2]
  simp only [strOfNums_append, List.append_assoc, List.cons_append, List.nil_append, Int.toNat_natCast]
theorem text_len {L : List Rule} (h : ∀ r ∈ L, RuleFits r) : (Tape.textR L).length ≤ 14 * L.length := by
  induction L with
  | nil => simp [Tape.textR]
  | cons r L ih =>
    rw [Tape.text_cons, List.length_append, List.length_cons, List.length_cons]
    have h1 := body_len (h r (by simp))
    have h2 := ih (fun q hq => h q (List.mem_cons_of_mem _ hq))
    omega
theorem RulesText_c (A : Option Addr) (L : List Rule) (c' : Nat) (w : World) (h1 : Rls w A L) (hf : faultR L = (0, 0)) : Calls Tryz.prog 22 #[.slice A L.length c'] w (SRetS w (strOfNums (Tape.textR L))) := by
  have hr64 := rules_ok hf
  have HRO := Lib.hid hr64.2
  have hln := hr64.1
  have HH1 := Lib.hid h1
  have HTL := Lib.hid (fun (k : Nat) => text_len (L := L.take k) (fun r hr => rule_fits (hr64.2 r (List.mem_of_mem_take hr))))
  clear hf h1 hr64
  obtain ⟨n, hn⟩ : ∃ n, L.length = n := ⟨_, rfl⟩
  have HN := Lib.hid hn
  rw [hn] at hln ⊢
  clear hn
  go_enter Tryz.func22, Tryz.ntmps22
  go_wp2
  go_loopw [3, 4] (fun t3 t4 wx => ∃ k : Nat, ∃ b, k ≤ n ∧ t4 = .int .i64 k ∧ t3 = .string b ∧ Hid (b = strOfNums (Tape.textR (L.take k))) ∧ b.size ≤ 14 * k ∧ Ext w wx) (fun _ t4 _ => n - (intOf t4).toNat)
  case atStart => exact ⟨0, _, Nat.zero_le _, rfl, rfl, Lib.hid rfl, by decide, Ext.refl w⟩
  case round =>
    obtain ⟨k, b, hk, rfl, rfl, hb, hbs, hx⟩ := hrel
    have HXR := Lib.hid hx
    have HHB := Lib.hid hb.out
    clear hx hb
    by_cases hlt2 : k < n
    · obtain ⟨r, hr⟩ : ∃ r, L[k]? = some r := ⟨_, List.getElem?_eq_getElem (by rw [HN.out]; exact hlt2)⟩
      obtain ⟨bb, o, rfl, hra⟩ := Rls.at_ (HH1.out.ext HXR.out) hr
      have HRA := Lib.hid hra
      have HRF := Lib.hid (rule_fits (HRO.out r (List.mem_of_getElem? hr)))
      have HR := Lib.hid hr
      clear hra hr
      go_upto_region 5 with (fail)
      go_cut [5] (fun s5 wx => s5 = .pointer (some ⟨wr.heap.size, 0, none⟩) ∧ wx.heap[wr.heap.size]? = some (.cells (ruleV r).toArray 54 (0, 0)) ∧ Ext wr wx)
      case first =>
        have HZ := Lib.hid (heap_alloc_new wr (.cells #[.int .i64 0, .int .i64 0, .int .i64 0, .int .i64 0, .int .i64 0] 54))
        go_wp2_with (first | refine wpList_load_cells rfl 54 _ rfl bb (o + k * 5) rfl _ (ruleV r) HRA.out.cells Tryz.underlying54 rfl sizeR ?_ | refine wpList_store_row rfl 54 _ _ rfl wr.heap.size (ruleV r).toArray rfl rfl 54 _ HZ.out sizeR rfl (ruleV_one r) ?_)
        go_meet
        exact ⟨rfl, setRow_heap _ _ _ _ _ _ HZ.out, ((Ext.refl wr).alloc _).setRow (Nat.le_refl _) _⟩
      obtain ⟨rfl, hbr, hxa⟩ := hcut
      obtain ⟨wa, rfl⟩ : ∃ wa : World, wa = wc := ⟨_, rfl⟩
      obtain ⟨gr, hgr⟩ : ∃ gr, gr = wr.heap.size := ⟨_, rfl⟩
      rw [← hgr] at hbr ⊢
      have HXA := Lib.hid (HXR.out.trans hxa)
      have HBR := Lib.hid hbr
      have y4 : wa.cell? ⟨gr, 4, none⟩ = some (.int .i64 r.nx) := blk_cell hbr 4
      clear hxa hbr hgr
      have hn0 := HRF.out.nx0
      have hn1 := HRF.out.nx1
      go_upto_if 19 with (fail)
      go_cut [6] (fun s6 wx => ∃ nb, s6 = .string nb ∧ Hid (nb = strOfNums (Tape.nextF r.nx)) ∧ nb.size ≤ 2 ∧ Ext wa wx)
      case first =>
        have HTW : Hid ((strOfNums (Tape.nextF r.nx)).size ≤ 2) := Lib.hid (by rw [strOfNums_size]; exact next_two HRF.out)
        by_cases hnx : 0 ≤ r.nx
        · obtain ⟨m, hm⟩ : ∃ m : Nat, r.nx = m := ⟨r.nx.toNat, by omega⟩
          have hsg := SignedT_c m wa (by omega)
          rw [← hm] at hsg
          have HI := Lib.hid hsg
          have HE : Hid (strOfNums (Acc.dec m) = strOfNums (Tape.nextF r.nx)) := Lib.hid (by unfold Tape.nextF; rw [if_pos hnx, hm, Int.toNat_natCast])
          have HTM : Hid ((strOfNums (Acc.dec m)).size ≤ 2) := Lib.hid (by rw [HE.out]; exact HTW.out)
          clear hm hsg
          go_wp2_with (go_at_call 44; refine HI.out.mono ?_; rintro e w2 ⟨rfl, hx2⟩)
          go_meet
          exact ⟨_, rfl, HE, HTM.out, hx2⟩
        · have HE : Hid ((⟨#[72]⟩ : ByteArray) = strOfNums (Tape.nextF r.nx)) := Lib.hid (by unfold Tape.nextF; rw [if_neg hnx]; rfl)
          have HTM : Hid ((⟨#[72]⟩ : ByteArray).size ≤ 2) := Lib.hid (by decide)
          go_wp2_with fail
          go_meet
          exact ⟨_, rfl, HE, HTM.out, Ext.refl _⟩
      obtain ⟨nb, rfl, hnb, hnbs, hxb⟩ := hcut
      obtain ⟨wb, rfl⟩ : ∃ wb : World, wb = wc := ⟨_, rfl⟩
      have HXB := Lib.hid (HXA.out.trans hxb)
      have HBB := Lib.hid (ext_heap hxb HBR.out)
      obtain ⟨m0, hm0⟩ : ∃ m : Nat, r.st = m := ⟨r.st.toNat, by have := HRF.out.st0; omega⟩
      obtain ⟨m1, hm1⟩ : ∃ m : Nat, r.sy = m := ⟨r.sy.toNat, by have := HRF.out.sy0; omega⟩
      obtain ⟨m2, hm2⟩ : ∃ m : Nat, r.wr = m := ⟨r.wr.toNat, by have := HRF.out.wr0; omega⟩
      have hb0 : m0 ≤ 15 := by have := HRF.out.st1; omega
      have hb1 : m1 ≤ 3 := by have := HRF.out.sy1; omega
      have hb2 : m2 ≤ 3 := by have := HRF.out.wr1; omega
      have HI0 := Lib.hid (fun (W : World) => SignedT_c m0 W (by omega))
      have HI1 := Lib.hid (fun (W : World) => SignedT_c m1 W (by omega))
      have HI2 := Lib.hid (fun (W : World) => SignedT_c m2 W (by omega))
      have hmv : r.mv = -1 ∨ r.mv = 0 ∨ r.mv = 1 := by have := HRF.out.mv0; have := HRF.out.mv1; omega
      have hEQ := line_is HR.out hm0 hm1 hm2 HHB.out
      rw [← hnb.out] at hEQ
      have HSZ : Hid ((strOfNums (Tape.textR (L.take (k + 1)))).size ≤ 14 * (k + 1)) := Lib.hid (by
        rw [strOfNums_size]
        have h1 := HTL.out (k + 1)
        rw [List.length_take] at h1
        omega)
      have hk64 : k < 64 := by omega
      have z0 : (strOfNums (Acc.dec m0)).size ≤ 2 := by rw [strOfNums_size]; exact dec_two (by omega)
      have z1 : (strOfNums (Acc.dec m1)).size ≤ 2 := by rw [strOfNums_size]; exact dec_two (by omega)
      have z2 : (strOfNums (Acc.dec m2)).size ≤ 2 := by rw [strOfNums_size]; exact dec_two (by omega)
      have y0 : wb.cell? ⟨gr, 0, none⟩ = some (.int .i64 (m0 : Int)) := by have := blk_cell HBB.out 0; rw [← hm0]; exact this
      have y1 : wb.cell? ⟨gr, 1, none⟩ = some (.int .i64 (m1 : Int)) := by have := blk_cell HBB.out 1; rw [← hm1]; exact this
      have y2 : wb.cell? ⟨gr, 2, none⟩ = some (.int .i64 (m2 : Int)) := by have := blk_cell HBB.out 2; rw [← hm2]; exact this
      have y3' : wb.cell? ⟨gr, 3, none⟩ = some (.int .i64 r.mv) := blk_cell HBB.out 3
      clear hxb y4 hn0 hn1 hm0 hm1 hm2 hb0 hb1 hb2 hnb HTL
      generalize strOfNums (Acc.dec m0) = D0 at *
      generalize strOfNums (Acc.dec m1) = D1 at *
      generalize strOfNums (Acc.dec m2) = D2 at *
      have k1 : IntKind.i64.wrap 1 = 1 := by decide
      have k0 : IntKind.i64.wrap 0 = 0 := by decide
      have k2 : IntKind.i64.wrap 2 = 2 := by decide
      have k3 : IntKind.i64.wrap 3 = 3 := by decide
      rcases hmv with hm | hm | hm
      · have y3 : wb.cell? ⟨gr, 3, none⟩ = some (.int .i64 (-1)) := by rw [y3', hm]
        rw [hm, show mvS (-1) = (⟨#[76, 83, 82]⟩ : ByteArray).extract 0 1 from by kernel_rfl] at hEQ
        have HEQ := Lib.hid hEQ
        clear y3' hm hEQ
        go_upto_region 9 with (fail)
        refine wp_region_held_drew (S := (fun w' => w'.cell? ⟨gr, 0, none⟩ = some (.int .i64 (m0 : Int)) ∧ w'.cell? ⟨gr, 1, none⟩ = some (.int .i64 (m1 : Int)) ∧ w'.cell? ⟨gr, 2, none⟩ = some (.int .i64 (m2 : Int)) ∧ w'.cell? ⟨gr, 3, none⟩ = some (.int .i64 (-1)))) (by kernel_rfl) ?_ (fun hHeld => ?_)
        · exact ⟨y0, y1, y2, y3⟩
        refine wpAnyH_take (i := 0) (oi := { dst := some 23, op := _, type := _, pos := _, after := _, guard := _ }) (v := ?v1001) rfl (by kernel_rfl) (by kernel_rfl) (by kernel_rfl) (fun _ _ _ h => h) (Or.inl ⟨by rfl, ?hy1001⟩) (by assumption) ?rest1001
        case hy1001 => (intro w hSw; (try dsimp only at hSw); go_simp; (try with_reducible rfl))
        try simp only [Act.put, List.setIfInBounds_toArray, List.set_cons_zero, List.set_cons_succ]
        refine wpAnyH_take (i := 1) (oi := { dst := some 24, op := _, type := _, pos := _, after := _, guard := _ }) (v := ?v1002) rfl (by kernel_rfl) (by kernel_rfl) (by kernel_rfl) (fun _ _ _ h => h) (Or.inl ⟨by rfl, ?hy1002⟩) (by assumption) ?rest1002
        case hy1002 => (intro w hSw; (try dsimp only at hSw); go_simp; (try with_reducible rfl))
        try simp only [Act.put, List.setIfInBounds_toArray, List.set_cons_zero, List.set_cons_succ]
        refine wpAnyH_take (i := 2) (oi := { dst := some 25, op := _, type := _, pos := _, after := _, guard := _ }) (v := ?v1003) rfl (by kernel_rfl) (by kernel_rfl) (by kernel_rfl) (fun _ _ _ h => h) (Or.inl ⟨by rfl, ?hy1003⟩) (by assumption) ?rest1003
        case hy1003 => (intro w hSw; (try dsimp only at hSw); go_simp; (try with_reducible rfl))
        try simp only [Act.put, List.setIfInBounds_toArray, List.set_cons_zero, List.set_cons_succ]
        refine wpAnyH_take (i := 6) (oi := { dst := some 29, op := _, type := _, pos := _, after := _, guard := _ }) (v := ?v1004) rfl (by kernel_rfl) (by kernel_rfl) (by kernel_rfl) (fun _ _ _ h => h) (Or.inl ⟨by rfl, ?hy1004⟩) (by assumption) ?rest1004
        case hy1004 => (intro w hSw; (try dsimp only at hSw); go_simp; (try with_reducible rfl))
        try simp only [Act.put, List.setIfInBounds_toArray, List.set_cons_zero, List.set_cons_succ]
        refine wpAnyH_take (i := 7) (oi := { dst := some 30, op := _, type := _, pos := _, after := _, guard := _ }) (v := ?v1005) rfl (by kernel_rfl) (by kernel_rfl) (by kernel_rfl) (fun _ _ _ h => h) (Or.inl ⟨by rfl, ?hy1005⟩) (by assumption) ?rest1005
        case hy1005 => (intro w hSw; (try dsimp only at hSw); go_simp; (try with_reducible rfl))
        try simp only [Act.put, List.setIfInBounds_toArray, List.set_cons_zero, List.set_cons_succ]
        refine wpAnyH_take (i := 11) (oi := { dst := some 34, op := _, type := _, pos := _, after := _, guard := _ }) (v := ?v1006) rfl (by kernel_rfl) (by kernel_rfl) (by kernel_rfl) (fun _ _ _ h => h) (Or.inl ⟨by rfl, ?hy1006⟩) (by assumption) ?rest1006
        case hy1006 => (intro w hSw; (try dsimp only at hSw); go_simp; (try with_reducible rfl))
        try simp only [Act.put, List.setIfInBounds_toArray, List.set_cons_zero, List.set_cons_succ]
        refine wpAnyH_take (i := 12) (oi := { dst := some 35, op := _, type := _, pos := _, after := _, guard := _ }) (v := ?v1007) rfl (by kernel_rfl) (by kernel_rfl) (by kernel_rfl) (fun _ _ _ h => h) (Or.inl ⟨by rfl, ?hy1007⟩) (by assumption) ?rest1007
        case hy1007 => (intro w hSw; (try dsimp only at hSw); go_simp; (try with_reducible rfl))
        try simp only [Act.put, List.setIfInBounds_toArray, List.set_cons_zero, List.set_cons_succ]
        refine wpAnyH_take (i := 16) (oi := { dst := some 39, op := _, type := _, pos := _, after := _, guard := _ }) (v := ?v1008) rfl (by kernel_rfl) (by kernel_rfl) (by kernel_rfl) (fun _ _ _ h => h) (Or.inl ⟨by rfl, ?hy1008⟩) (by assumption) ?rest1008
        case hy1008 => (intro w hSw; (try dsimp only at hSw); go_simp; (try with_reducible rfl))
        try simp only [Act.put, List.setIfInBounds_toArray, List.set_cons_zero, List.set_cons_succ]
        refine wpAnyH_take (i := 17) (oi := { dst := some 40, op := _, type := _, pos := _, after := _, guard := _ }) (v := ?v1009) rfl (by kernel_rfl) (by kernel_rfl) (by kernel_rfl) (fun _ _ _ h => h) (Or.inl ⟨by rfl, ?hy1009⟩) (by assumption) ?rest1009
        case hy1009 => (intro w hSw; (try dsimp only at hSw); go_simp; (try with_reducible rfl))
        try simp only [Act.put, List.setIfInBounds_toArray, List.set_cons_zero, List.set_cons_succ]
        refine wpAnyH_take (i := 18) (oi := { dst := some 41, op := _, type := _, pos := _, after := _, guard := _ }) (v := ?v1010) rfl (by kernel_rfl) (by kernel_rfl) (by kernel_rfl) (fun _ _ _ h => h) (Or.inl ⟨by rfl, ?hy1010⟩) (by assumption) ?rest1010
        case hy1010 => (intro w hSw; (try dsimp only at hSw); go_simp; (try with_reducible rfl))
        try simp only [Act.put, List.setIfInBounds_toArray, List.set_cons_zero, List.set_cons_succ]
        refine wpAnyH_take (i := 19) (oi := { dst := some 42, op := _, type := _, pos := _, after := _, guard := _ }) (v := ?v1011) rfl (by kernel_rfl) (by kernel_rfl) (by kernel_rfl) (fun _ _ _ h => h) (Or.inl ⟨by rfl, ?hy1011⟩) (by assumption) ?rest1011
        case hy1011 => (intro w hSw; (try dsimp only at hSw); go_simp; (try with_reducible rfl))
        try simp only [Act.put, List.setIfInBounds_toArray, List.set_cons_zero, List.set_cons_succ]
        refine wpAnyH_take (i := 20) (oi := { dst := some 43, op := _, type := _, pos := _, after := _, guard := _ }) (v := ?v1012) rfl (by kernel_rfl) (by kernel_rfl) (by kernel_rfl) (fun _ _ _ h => h) (Or.inl ⟨by rfl, ?hy1012⟩) (by assumption) ?rest1012
        case hy1012 => (intro w hSw; (try dsimp only at hSw); go_simp; (try with_reducible rfl))
        try simp only [Act.put, List.setIfInBounds_toArray, List.set_cons_zero, List.set_cons_succ]
        refine wpAnyH_take (i := 21) (oi := { dst := some 44, op := _, type := _, pos := _, after := _, guard := _ }) (v := ?v1013) rfl (by kernel_rfl) (by kernel_rfl) (by kernel_rfl) (fun _ _ _ h => h) (Or.inl ⟨by rfl, ?hy1013⟩) (by assumption) ?rest1013
        case hy1013 => (intro w hSw; (try dsimp only at hSw); go_simp; (try with_reducible rfl))
        try simp only [Act.put, List.setIfInBounds_toArray, List.set_cons_zero, List.set_cons_succ]
        refine wpAnyH_take (i := 22) (oi := { dst := some 45, op := _, type := _, pos := _, after := _, guard := _ }) (v := ?v1014) rfl (by kernel_rfl) (by kernel_rfl) (by kernel_rfl) (fun _ _ _ h => h) (Or.inl ⟨by rfl, ?hy1014⟩) (by assumption) ?rest1014
        case hy1014 => (intro w hSw; (try dsimp only at hSw); go_simp; (try with_reducible rfl))
        try simp only [Act.put, List.setIfInBounds_toArray, List.set_cons_zero, List.set_cons_succ]
        refine wpAnyH_take (i := 25) (oi := { dst := some 48, op := _, type := _, pos := _, after := _, guard := _ }) (v := ?v1015) rfl (by kernel_rfl) (by kernel_rfl) (by kernel_rfl) (fun _ _ _ h => h) (Or.inl ⟨by rfl, ?hy1015⟩) (by assumption) ?rest1015
        case hy1015 => (intro w hSw; (try dsimp only at hSw); go_simp; (try with_reducible rfl))
        try simp only [Act.put, List.setIfInBounds_toArray, List.set_cons_zero, List.set_cons_succ]
        refine wpAnyH_ready (rs := [3]) (by kernel_rfl) (by simp) ?_
        refine (AllReadyH.cons (o := { dst := some 26, op := _, type := _, pos := _, after := _, guard := _ }) rfl (fun K hK => ?_) AllReadyH.nil)
        · go_simp
          (go_at_call 44; refine (HI0.out _).mono ?_; rintro e w3 ⟨rfl, hx3⟩; have HX3 : Hid (Ext wb w3) := Lib.hid (Ext.trans (by first | exact Ext.refl _ | exact (Ext.refl _).drew) hx3))
          go_wp2_with fail
          refine hK.out _ _ ?_ (fun hHeld => ?_)
          · exact ⟨Ext.cell hx3 hHeld.1, Ext.cell hx3 hHeld.2.1, Ext.cell hx3 hHeld.2.2.1, Ext.cell hx3 hHeld.2.2.2⟩
          clear hK K
          try simp only [Act.put, List.setIfInBounds_toArray, List.set_cons_zero, List.set_cons_succ]
          refine wpAnyH_take (i := 4) (oi := { dst := some 27, op := _, type := _, pos := _, after := _, guard := _ }) (v := ?v1016) rfl (by kernel_rfl) (by kernel_rfl) (by kernel_rfl) (fun _ _ _ h => h) (Or.inl ⟨by rfl, ?hy1016⟩) (by assumption) ?rest1016
          case hy1016 => (intro w hSw; (try dsimp only at hSw); go_simp; try (rw [if_neg (by first | omega | (simp only [ByteArray.size_append]; omega))]))
          try simp only [Act.put, List.setIfInBounds_toArray, List.set_cons_zero, List.set_cons_succ]
          refine wpAnyH_take (i := 5) (oi := { dst := some 28, op := _, type := _, pos := _, after := _, guard := _ }) (v := ?v1017) rfl (by kernel_rfl) (by kernel_rfl) (by kernel_rfl) (fun _ _ _ h => h) (Or.inl ⟨by rfl, ?hy1017⟩) (by assumption) ?rest1017
          case hy1017 => (intro w hSw; (try dsimp only at hSw); go_simp; try (rw [if_neg (by first | omega | (simp only [ByteArray.size_append]; omega))]))
          try simp only [Act.put, List.setIfInBounds_toArray, List.set_cons_zero, List.set_cons_succ]
          refine wpAnyH_ready (rs := [8]) (by kernel_rfl) (by simp) ?_
          refine (AllReadyH.cons (o := { dst := some 31, op := _, type := _, pos := _, after := _, guard := _ }) rfl (fun K hK => ?_) AllReadyH.nil)
          · go_simp
            (go_at_call 44; refine (HI1.out _).mono ?_; rintro e w8 ⟨rfl, hx8⟩; have HX8 : Hid (Ext wb w8) := Lib.hid (Ext.trans (HX3.out.trans (by first | exact Ext.refl _ | exact (Ext.refl _).drew)) hx8))
            go_wp2_with fail
            refine hK.out _ _ ?_ (fun hHeld => ?_)
            · exact ⟨Ext.cell hx8 hHeld.1, Ext.cell hx8 hHeld.2.1, Ext.cell hx8 hHeld.2.2.1, Ext.cell hx8 hHeld.2.2.2⟩
            clear hK K
            try simp only [Act.put, List.setIfInBounds_toArray, List.set_cons_zero, List.set_cons_succ]
            refine wpAnyH_take (i := 9) (oi := { dst := some 32, op := _, type := _, pos := _, after := _, guard := _ }) (v := ?v1018) rfl (by kernel_rfl) (by kernel_rfl) (by kernel_rfl) (fun _ _ _ h => h) (Or.inl ⟨by rfl, ?hy1018⟩) (by assumption) ?rest1018
            case hy1018 => (intro w hSw; (try dsimp only at hSw); go_simp; try (rw [if_neg (by first | omega | (simp only [ByteArray.size_append]; omega))]))
            try simp only [Act.put, List.setIfInBounds_toArray, List.set_cons_zero, List.set_cons_succ]
            refine wpAnyH_take (i := 10) (oi := { dst := some 33, op := _, type := _, pos := _, after := _, guard := _ }) (v := ?v1019) rfl (by kernel_rfl) (by kernel_rfl) (by kernel_rfl) (fun _ _ _ h => h) (Or.inl ⟨by rfl, ?hy1019⟩) (by assumption) ?rest1019
            case hy1019 => (intro w hSw; (try dsimp only at hSw); go_simp; try (rw [if_neg (by first | omega | (simp only [ByteArray.size_append]; omega))]))
            try simp only [Act.put, List.setIfInBounds_toArray, List.set_cons_zero, List.set_cons_succ]
            refine wpAnyH_ready (rs := [13]) (by kernel_rfl) (by simp) ?_
            refine (AllReadyH.cons (o := { dst := some 36, op := _, type := _, pos := _, after := _, guard := _ }) rfl (fun K hK => ?_) AllReadyH.nil)
            · go_simp
              (go_at_call 44; refine (HI2.out _).mono ?_; rintro e w13 ⟨rfl, hx13⟩; have HX13 : Hid (Ext wb w13) := Lib.hid (Ext.trans (HX8.out.trans (by first | exact Ext.refl _ | exact (Ext.refl _).drew)) hx13))
              go_wp2_with fail
              refine hK.out _ _ ?_ (fun hHeld => ?_)
              · exact ⟨Ext.cell hx13 hHeld.1, Ext.cell hx13 hHeld.2.1, Ext.cell hx13 hHeld.2.2.1, Ext.cell hx13 hHeld.2.2.2⟩
              clear hK K
              try simp only [Act.put, List.setIfInBounds_toArray, List.set_cons_zero, List.set_cons_succ]
              refine wpAnyH_take (i := 14) (oi := { dst := some 37, op := _, type := _, pos := _, after := _, guard := _ }) (v := ?v1020) rfl (by kernel_rfl) (by kernel_rfl) (by kernel_rfl) (fun _ _ _ h => h) (Or.inl ⟨by rfl, ?hy1020⟩) (by assumption) ?rest1020
              case hy1020 => (intro w hSw; (try dsimp only at hSw); go_simp; try (rw [if_neg (by first | omega | (simp only [ByteArray.size_append]; omega))]))
              try simp only [Act.put, List.setIfInBounds_toArray, List.set_cons_zero, List.set_cons_succ]
              refine wpAnyH_take (i := 15) (oi := { dst := some 38, op := _, type := _, pos := _, after := _, guard := _ }) (v := ?v1021) rfl (by kernel_rfl) (by kernel_rfl) (by kernel_rfl) (fun _ _ _ h => h) (Or.inl ⟨by rfl, ?hy1021⟩) (by assumption) ?rest1021
              case hy1021 => (intro w hSw; (try dsimp only at hSw); go_simp; try (rw [if_neg (by first | omega | (simp only [ByteArray.size_append]; omega))]))
              try simp only [Act.put, List.setIfInBounds_toArray, List.set_cons_zero, List.set_cons_succ]
              refine wpAnyH_take (i := 23) (oi := { dst := some 46, op := _, type := _, pos := _, after := _, guard := _ }) (v := ?v1022) rfl (by kernel_rfl) (by kernel_rfl) (by kernel_rfl) (fun _ _ _ h => h) (Or.inl ⟨by rfl, ?hy1022⟩) (by assumption) ?rest1022
              case hy1022 => (intro w hSw; (try dsimp only at hSw); go_simp; try (rw [if_neg (by first | omega | (simp only [ByteArray.size_append]; omega))]))
              try simp only [Act.put, List.setIfInBounds_toArray, List.set_cons_zero, List.set_cons_succ]
              refine wpAnyH_take (i := 24) (oi := { dst := some 47, op := _, type := _, pos := _, after := _, guard := _ }) (v := ?v1023) rfl (by kernel_rfl) (by kernel_rfl) (by kernel_rfl) (fun _ _ _ h => h) (Or.inl ⟨by rfl, ?hy1023⟩) (by assumption) ?rest1023
              case hy1023 => (intro w hSw; (try dsimp only at hSw); go_simp; try (rw [if_neg (by first | omega | (simp only [ByteArray.size_append]; omega))]))
              try simp only [Act.put, List.setIfInBounds_toArray, List.set_cons_zero, List.set_cons_succ]
              refine wpAnyH_take (i := 26) (oi := { dst := some 49, op := _, type := _, pos := _, after := _, guard := _ }) (v := ?v1024) rfl (by kernel_rfl) (by kernel_rfl) (by kernel_rfl) (fun _ _ _ h => h) (Or.inl ⟨by rfl, ?hy1024⟩) (by assumption) ?rest1024
              case hy1024 => (intro w hSw; (try dsimp only at hSw); go_simp; try (rw [if_neg (by first | omega | (simp only [ByteArray.size_append]; omega))]))
              try simp only [Act.put, List.setIfInBounds_toArray, List.set_cons_zero, List.set_cons_succ]
              refine wpAnyH_take (i := 27) (oi := { dst := some 50, op := _, type := _, pos := _, after := _, guard := _ }) (v := ?v1025) rfl (by kernel_rfl) (by kernel_rfl) (by kernel_rfl) (fun _ _ _ h => h) (Or.inl ⟨by rfl, ?hy1025⟩) (by assumption) ?rest1025
              case hy1025 => (intro w hSw; (try dsimp only at hSw); go_simp; try (rw [if_neg (by first | omega | (simp only [ByteArray.size_append]; omega))]))
              try simp only [Act.put, List.setIfInBounds_toArray, List.set_cons_zero, List.set_cons_succ]
              refine wpAnyH_take (i := 28) (oi := { dst := some 3, op := _, type := _, pos := _, after := _, guard := _ }) (v := ?v1026) rfl (by kernel_rfl) (by kernel_rfl) (by kernel_rfl) (fun _ _ _ h => h) (Or.inl ⟨by rfl, ?hy1026⟩) (by assumption) ?rest1026
              case hy1026 => (intro w hSw; (try dsimp only at hSw); go_simp; (try with_reducible rfl))
              try simp only [Act.put, List.setIfInBounds_toArray, List.set_cons_zero, List.set_cons_succ]
              refine wpAnyH_done (by kernel_rfl) ?_ _
              have HXQ := Lib.hid (HXB.out.trans (HX13.out.trans (by first | exact Ext.refl _ | exact (Ext.refl _).drew)))
              go_wp2_with fail
              go_roundw
              case rel =>
                refine ⟨k + 1, _, by omega, by go_num, rfl, Lib.hid HEQ.out, ?_, HXQ.out⟩
                rw [HEQ.out]
                exact HSZ.out
              case measure => simp [intOf]; omega
      · have y3 : wb.cell? ⟨gr, 3, none⟩ = some (.int .i64 (0)) := by rw [y3', hm]
        rw [hm, show mvS (0) = (⟨#[76, 83, 82]⟩ : ByteArray).extract 1 2 from by kernel_rfl] at hEQ
        have HEQ := Lib.hid hEQ
        clear y3' hm hEQ
        go_upto_region 9 with (fail)
        refine wp_region_held_drew (S := (fun w' => w'.cell? ⟨gr, 0, none⟩ = some (.int .i64 (m0 : Int)) ∧ w'.cell? ⟨gr, 1, none⟩ = some (.int .i64 (m1 : Int)) ∧ w'.cell? ⟨gr, 2, none⟩ = some (.int .i64 (m2 : Int)) ∧ w'.cell? ⟨gr, 3, none⟩ = some (.int .i64 (0)))) (by kernel_rfl) ?_ (fun hHeld => ?_)
        · exact ⟨y0, y1, y2, y3⟩
        refine wpAnyH_take (i := 0) (oi := { dst := some 23, op := _, type := _, pos := _, after := _, guard := _ }) (v := ?v2001) rfl (by kernel_rfl) (by kernel_rfl) (by kernel_rfl) (fun _ _ _ h => h) (Or.inl ⟨by rfl, ?hy2001⟩) (by assumption) ?rest2001
        case hy2001 => (intro w hSw; (try dsimp only at hSw); go_simp; (try with_reducible rfl))
        try simp only [Act.put, List.setIfInBounds_toArray, List.set_cons_zero, List.set_cons_succ]
        refine wpAnyH_take (i := 1) (oi := { dst := some 24, op := _, type := _, pos := _, after := _, guard := _ }) (v := ?v2002) rfl (by kernel_rfl) (by kernel_rfl) (by kernel_rfl) (fun _ _ _ h => h) (Or.inl ⟨by rfl, ?hy2002⟩) (by assumption) ?rest2002
        case hy2002 => (intro w hSw; (try dsimp only at hSw); go_simp; (try with_reducible rfl))
        try simp only [Act.put, List.setIfInBounds_toArray, List.set_cons_zero, List.set_cons_succ]
        refine wpAnyH_take (i := 2) (oi := { dst := some 25, op := _, type := _, pos := _, after := _, guard := _ }) (v := ?v2003) rfl (by kernel_rfl) (by kernel_rfl) (by kernel_rfl) (fun _ _ _ h => h) (Or.inl ⟨by rfl, ?hy2003⟩) (by assumption) ?rest2003
        case hy2003 => (intro w hSw; (try dsimp only at hSw); go_simp; (try with_reducible rfl))
        try simp only [Act.put, List.setIfInBounds_toArray, List.set_cons_zero, List.set_cons_succ]
        refine wpAnyH_take (i := 6) (oi := { dst := some 29, op := _, type := _, pos := _, after := _, guard := _ }) (v := ?v2004) rfl (by kernel_rfl) (by kernel_rfl) (by kernel_rfl) (fun _ _ _ h => h) (Or.inl ⟨by rfl, ?hy2004⟩) (by assumption) ?rest2004
        case hy2004 => (intro w hSw; (try dsimp only at hSw); go_simp; (try with_reducible rfl))
        try simp only [Act.put, List.setIfInBounds_toArray, List.set_cons_zero, List.set_cons_succ]
        refine wpAnyH_take (i := 7) (oi := { dst := some 30, op := _, type := _, pos := _, after := _, guard := _ }) (v := ?v2005) rfl (by kernel_rfl) (by kernel_rfl) (by kernel_rfl) (fun _ _ _ h => h) (Or.inl ⟨by rfl, ?hy2005⟩) (by assumption) ?rest2005
        case hy2005 => (intro w hSw; (try dsimp only at hSw); go_simp; (try with_reducible rfl))
        try simp only [Act.put, List.setIfInBounds_toArray, List.set_cons_zero, List.set_cons_succ]
        refine wpAnyH_take (i := 11) (oi := { dst := some 34, op := _, type := _, pos := _, after := _, guard := _ }) (v := ?v2006) rfl (by kernel_rfl) (by kernel_rfl) (by kernel_rfl) (fun _ _ _ h => h) (Or.inl ⟨by rfl, ?hy2006⟩) (by assumption) ?rest2006
        case hy2006 => (intro w hSw; (try dsimp only at hSw); go_simp; (try with_reducible rfl))
        try simp only [Act.put, List.setIfInBounds_toArray, List.set_cons_zero, List.set_cons_succ]
        refine wpAnyH_take (i := 12) (oi := { dst := some 35, op := _, type := _, pos := _, after := _, guard := _ }) (v := ?v2007) rfl (by kernel_rfl) (by kernel_rfl) (by kernel_rfl) (fun _ _ _ h => h) (Or.inl ⟨by rfl, ?hy2007⟩) (by assumption) ?rest2007
        case hy2007 => (intro w hSw; (try dsimp only at hSw); go_simp; (try with_reducible rfl))
        try simp only [Act.put, List.setIfInBounds_toArray, List.set_cons_zero, List.set_cons_succ]
        refine wpAnyH_take (i := 16) (oi := { dst := some 39, op := _, type := _, pos := _, after := _, guard := _ }) (v := ?v2008) rfl (by kernel_rfl) (by kernel_rfl) (by kernel_rfl) (fun _ _ _ h => h) (Or.inl ⟨by rfl, ?hy2008⟩) (by assumption) ?rest2008
        case hy2008 => (intro w hSw; (try dsimp only at hSw); go_simp; (try with_reducible rfl))
        try simp only [Act.put, List.setIfInBounds_toArray, List.set_cons_zero, List.set_cons_succ]
        refine wpAnyH_take (i := 17) (oi := { dst := some 40, op := _, type := _, pos := _, after := _, guard := _ }) (v := ?v2009) rfl (by kernel_rfl) (by kernel_rfl) (by kernel_rfl) (fun _ _ _ h => h) (Or.inl ⟨by rfl, ?hy2009⟩) (by assumption) ?rest2009
        case hy2009 => (intro w hSw; (try dsimp only at hSw); go_simp; (try with_reducible rfl))
        try simp only [Act.put, List.setIfInBounds_toArray, List.set_cons_zero, List.set_cons_succ]
        refine wpAnyH_take (i := 18) (oi := { dst := some 41, op := _, type := _, pos := _, after := _, guard := _ }) (v := ?v2010) rfl (by kernel_rfl) (by kernel_rfl) (by kernel_rfl) (fun _ _ _ h => h) (Or.inl ⟨by rfl, ?hy2010⟩) (by assumption) ?rest2010
        case hy2010 => (intro w hSw; (try dsimp only at hSw); go_simp; (try with_reducible rfl))
        try simp only [Act.put, List.setIfInBounds_toArray, List.set_cons_zero, List.set_cons_succ]
        refine wpAnyH_take (i := 19) (oi := { dst := some 42, op := _, type := _, pos := _, after := _, guard := _ }) (v := ?v2011) rfl (by kernel_rfl) (by kernel_rfl) (by kernel_rfl) (fun _ _ _ h => h) (Or.inl ⟨by rfl, ?hy2011⟩) (by assumption) ?rest2011
        case hy2011 => (intro w hSw; (try dsimp only at hSw); go_simp; (try with_reducible rfl))
        try simp only [Act.put, List.setIfInBounds_toArray, List.set_cons_zero, List.set_cons_succ]
        refine wpAnyH_take (i := 20) (oi := { dst := some 43, op := _, type := _, pos := _, after := _, guard := _ }) (v := ?v2012) rfl (by kernel_rfl) (by kernel_rfl) (by kernel_rfl) (fun _ _ _ h => h) (Or.inl ⟨by rfl, ?hy2012⟩) (by assumption) ?rest2012
        case hy2012 => (intro w hSw; (try dsimp only at hSw); go_simp; (try with_reducible rfl))
        try simp only [Act.put, List.setIfInBounds_toArray, List.set_cons_zero, List.set_cons_succ]
        refine wpAnyH_take (i := 21) (oi := { dst := some 44, op := _, type := _, pos := _, after := _, guard := _ }) (v := ?v2013) rfl (by kernel_rfl) (by kernel_rfl) (by kernel_rfl) (fun _ _ _ h => h) (Or.inl ⟨by rfl, ?hy2013⟩) (by assumption) ?rest2013
        case hy2013 => (intro w hSw; (try dsimp only at hSw); go_simp; (try with_reducible rfl))
        try simp only [Act.put, List.setIfInBounds_toArray, List.set_cons_zero, List.set_cons_succ]
        refine wpAnyH_take (i := 22) (oi := { dst := some 45, op := _, type := _, pos := _, after := _, guard := _ }) (v := ?v2014) rfl (by kernel_rfl) (by kernel_rfl) (by kernel_rfl) (fun _ _ _ h => h) (Or.inl ⟨by rfl, ?hy2014⟩) (by assumption) ?rest2014
        case hy2014 => (intro w hSw; (try dsimp only at hSw); go_simp; (try with_reducible rfl))
        try simp only [Act.put, List.setIfInBounds_toArray, List.set_cons_zero, List.set_cons_succ]
        refine wpAnyH_take (i := 25) (oi := { dst := some 48, op := _, type := _, pos := _, after := _, guard := _ }) (v := ?v2015) rfl (by kernel_rfl) (by kernel_rfl) (by kernel_rfl) (fun _ _ _ h => h) (Or.inl ⟨by rfl, ?hy2015⟩) (by assumption) ?rest2015
        case hy2015 => (intro w hSw; (try dsimp only at hSw); go_simp; (try with_reducible rfl))
        try simp only [Act.put, List.setIfInBounds_toArray, List.set_cons_zero, List.set_cons_succ]
        refine wpAnyH_ready (rs := [3]) (by kernel_rfl) (by simp) ?_
        refine (AllReadyH.cons (o := { dst := some 26, op := _, type := _, pos := _, after := _, guard := _ }) rfl (fun K hK => ?_) AllReadyH.nil)
        · go_simp
          (go_at_call 44; refine (HI0.out _).mono ?_; rintro e w3 ⟨rfl, hx3⟩; have HX3 : Hid (Ext wb w3) := Lib.hid (Ext.trans (by first | exact Ext.refl _ | exact (Ext.refl _).drew) hx3))
          go_wp2_with fail
          refine hK.out _ _ ?_ (fun hHeld => ?_)
          · exact ⟨Ext.cell hx3 hHeld.1, Ext.cell hx3 hHeld.2.1, Ext.cell hx3 hHeld.2.2.1, Ext.cell hx3 hHeld.2.2.2⟩
          clear hK K
          try simp only [Act.put, List.setIfInBounds_toArray, List.set_cons_zero, List.set_cons_succ]
          refine wpAnyH_take (i := 4) (oi := { dst := some 27, op := _, type := _, pos := _, after := _, guard := _ }) (v := ?v2016) rfl (by kernel_rfl) (by kernel_rfl) (by kernel_rfl) (fun _ _ _ h => h) (Or.inl ⟨by rfl, ?hy2016⟩) (by assumption) ?rest2016
          case hy2016 => (intro w hSw; (try dsimp only at hSw); go_simp; try (rw [if_neg (by first | omega | (simp only [ByteArray.size_append]; omega))]))
          try simp only [Act.put, List.setIfInBounds_toArray, List.set_cons_zero, List.set_cons_succ]
          refine wpAnyH_take (i := 5) (oi := { dst := some 28, op := _, type := _, pos := _, after := _, guard := _ }) (v := ?v2017) rfl (by kernel_rfl) (by kernel_rfl) (by kernel_rfl) (fun _ _ _ h => h) (Or.inl ⟨by rfl, ?hy2017⟩) (by assumption) ?rest2017
          case hy2017 => (intro w hSw; (try dsimp only at hSw); go_simp; try (rw [if_neg (by first | omega | (simp only [ByteArray.size_append]; omega))]))
          try simp only [Act.put, List.setIfInBounds_toArray, List.set_cons_zero, List.set_cons_succ]
          refine wpAnyH_ready (rs := [8]) (by kernel_rfl) (by simp) ?_
          refine (AllReadyH.cons (o := { dst := some 31, op := _, type := _, pos := _, after := _, guard := _ }) rfl (fun K hK => ?_) AllReadyH.nil)
          · go_simp
            (go_at_call 44; refine (HI1.out _).mono ?_; rintro e w8 ⟨rfl, hx8⟩; have HX8 : Hid (Ext wb w8) := Lib.hid (Ext.trans (HX3.out.trans (by first | exact Ext.refl _ | exact (Ext.refl _).drew)) hx8))
            go_wp2_with fail
            refine hK.out _ _ ?_ (fun hHeld => ?_)
            · exact ⟨Ext.cell hx8 hHeld.1, Ext.cell hx8 hHeld.2.1, Ext.cell hx8 hHeld.2.2.1, Ext.cell hx8 hHeld.2.2.2⟩
            clear hK K
            try simp only [Act.put, List.setIfInBounds_toArray, List.set_cons_zero, List.set_cons_succ]
            refine wpAnyH_take (i := 9) (oi := { dst := some 32, op := _, type := _, pos := _, after := _, guard := _ }) (v := ?v2018) rfl (by kernel_rfl) (by kernel_rfl) (by kernel_rfl) (fun _ _ _ h => h) (Or.inl ⟨by rfl, ?hy2018⟩) (by assumption) ?rest2018
            case hy2018 => (intro w hSw; (try dsimp only at hSw); go_simp; try (rw [if_neg (by first | omega | (simp only [ByteArray.size_append]; omega))]))
            try simp only [Act.put, List.setIfInBounds_toArray, List.set_cons_zero, List.set_cons_succ]
            refine wpAnyH_take (i := 10) (oi := { dst := some 33, op := _, type := _, pos := _, after := _, guard := _ }) (v := ?v2019) rfl (by kernel_rfl) (by kernel_rfl) (by kernel_rfl) (fun _ _ _ h => h) (Or.inl ⟨by rfl, ?hy2019⟩) (by assumption) ?rest2019
            case hy2019 => (intro w hSw; (try dsimp only at hSw); go_simp; try (rw [if_neg (by first | omega | (simp only [ByteArray.size_append]; omega))]))
            try simp only [Act.put, List.setIfInBounds_toArray, List.set_cons_zero, List.set_cons_succ]
            refine wpAnyH_ready (rs := [13]) (by kernel_rfl) (by simp) ?_
            refine (AllReadyH.cons (o := { dst := some 36, op := _, type := _, pos := _, after := _, guard := _ }) rfl (fun K hK => ?_) AllReadyH.nil)
            · go_simp
              (go_at_call 44; refine (HI2.out _).mono ?_; rintro e w13 ⟨rfl, hx13⟩; have HX13 : Hid (Ext wb w13) := Lib.hid (Ext.trans (HX8.out.trans (by first | exact Ext.refl _ | exact (Ext.refl _).drew)) hx13))
              go_wp2_with fail
              refine hK.out _ _ ?_ (fun hHeld => ?_)
              · exact ⟨Ext.cell hx13 hHeld.1, Ext.cell hx13 hHeld.2.1, Ext.cell hx13 hHeld.2.2.1, Ext.cell hx13 hHeld.2.2.2⟩
              clear hK K
              try simp only [Act.put, List.setIfInBounds_toArray, List.set_cons_zero, List.set_cons_succ]
              refine wpAnyH_take (i := 14) (oi := { dst := some 37, op := _, type := _, pos := _, after := _, guard := _ }) (v := ?v2020) rfl (by kernel_rfl) (by kernel_rfl) (by kernel_rfl) (fun _ _ _ h => h) (Or.inl ⟨by rfl, ?hy2020⟩) (by assumption) ?rest2020
              case hy2020 => (intro w hSw; (try dsimp only at hSw); go_simp; try (rw [if_neg (by first | omega | (simp only [ByteArray.size_append]; omega))]))
              try simp only [Act.put, List.setIfInBounds_toArray, List.set_cons_zero, List.set_cons_succ]
              refine wpAnyH_take (i := 15) (oi := { dst := some 38, op := _, type := _, pos := _, after := _, guard := _ }) (v := ?v2021) rfl (by kernel_rfl) (by kernel_rfl) (by kernel_rfl) (fun _ _ _ h => h) (Or.inl ⟨by rfl, ?hy2021⟩) (by assumption) ?rest2021
              case hy2021 => (intro w hSw; (try dsimp only at hSw); go_simp; try (rw [if_neg (by first | omega | (simp only [ByteArray.size_append]; omega))]))
              try simp only [Act.put, List.setIfInBounds_toArray, List.set_cons_zero, List.set_cons_succ]
              refine wpAnyH_take (i := 23) (oi := { dst := some 46, op := _, type := _, pos := _, after := _, guard := _ }) (v := ?v2022) rfl (by kernel_rfl) (by kernel_rfl) (by kernel_rfl) (fun _ _ _ h => h) (Or.inl ⟨by rfl, ?hy2022⟩) (by assumption) ?rest2022
              case hy2022 => (intro w hSw; (try dsimp only at hSw); go_simp; try (rw [if_neg (by first | omega | (simp only [ByteArray.size_append]; omega))]))
              try simp only [Act.put, List.setIfInBounds_toArray, List.set_cons_zero, List.set_cons_succ]
              refine wpAnyH_take (i := 24) (oi := { dst := some 47, op := _, type := _, pos := _, after := _, guard := _ }) (v := ?v2023) rfl (by kernel_rfl) (by kernel_rfl) (by kernel_rfl) (fun _ _ _ h => h) (Or.inl ⟨by rfl, ?hy2023⟩) (by assumption) ?rest2023
              case hy2023 => (intro w hSw; (try dsimp only at hSw); go_simp; try (rw [if_neg (by first | omega | (simp only [ByteArray.size_append]; omega))]))
              try simp only [Act.put, List.setIfInBounds_toArray, List.set_cons_zero, List.set_cons_succ]
              refine wpAnyH_take (i := 26) (oi := { dst := some 49, op := _, type := _, pos := _, after := _, guard := _ }) (v := ?v2024) rfl (by kernel_rfl) (by kernel_rfl) (by kernel_rfl) (fun _ _ _ h => h) (Or.inl ⟨by rfl, ?hy2024⟩) (by assumption) ?rest2024
              case hy2024 => (intro w hSw; (try dsimp only at hSw); go_simp; try (rw [if_neg (by first | omega | (simp only [ByteArray.size_append]; omega))]))
              try simp only [Act.put, List.setIfInBounds_toArray, List.set_cons_zero, List.set_cons_succ]
              refine wpAnyH_take (i := 27) (oi := { dst := some 50, op := _, type := _, pos := _, after := _, guard := _ }) (v := ?v2025) rfl (by kernel_rfl) (by kernel_rfl) (by kernel_rfl) (fun _ _ _ h => h) (Or.inl ⟨by rfl, ?hy2025⟩) (by assumption) ?rest2025
              case hy2025 => (intro w hSw; (try dsimp only at hSw); go_simp; try (rw [if_neg (by first | omega | (simp only [ByteArray.size_append]; omega))]))
              try simp only [Act.put, List.setIfInBounds_toArray, List.set_cons_zero, List.set_cons_succ]
              refine wpAnyH_take (i := 28) (oi := { dst := some 3, op := _, type := _, pos := _, after := _, guard := _ }) (v := ?v2026) rfl (by kernel_rfl) (by kernel_rfl) (by kernel_rfl) (fun _ _ _ h => h) (Or.inl ⟨by rfl, ?hy2026⟩) (by assumption) ?rest2026
              case hy2026 => (intro w hSw; (try dsimp only at hSw); go_simp; (try with_reducible rfl))
              try simp only [Act.put, List.setIfInBounds_toArray, List.set_cons_zero, List.set_cons_succ]
              refine wpAnyH_done (by kernel_rfl) ?_ _
              have HXQ := Lib.hid (HXB.out.trans (HX13.out.trans (by first | exact Ext.refl _ | exact (Ext.refl _).drew)))
              go_wp2_with fail
              go_roundw
              case rel =>
                refine ⟨k + 1, _, by omega, by go_num, rfl, Lib.hid HEQ.out, ?_, HXQ.out⟩
                rw [HEQ.out]
                exact HSZ.out
              case measure => simp [intOf]; omega
      · have y3 : wb.cell? ⟨gr, 3, none⟩ = some (.int .i64 (1)) := by rw [y3', hm]
        rw [hm, show mvS (1) = (⟨#[76, 83, 82]⟩ : ByteArray).extract 2 3 from by kernel_rfl] at hEQ
        have HEQ := Lib.hid hEQ
        clear y3' hm hEQ
        go_upto_region 9 with (fail)
        refine wp_region_held_drew (S := (fun w' => w'.cell? ⟨gr, 0, none⟩ = some (.int .i64 (m0 : Int)) ∧ w'.cell? ⟨gr, 1, none⟩ = some (.int .i64 (m1 : Int)) ∧ w'.cell? ⟨gr, 2, none⟩ = some (.int .i64 (m2 : Int)) ∧ w'.cell? ⟨gr, 3, none⟩ = some (.int .i64 (1)))) (by kernel_rfl) ?_ (fun hHeld => ?_)
        · exact ⟨y0, y1, y2, y3⟩
        refine wpAnyH_take (i := 0) (oi := { dst := some 23, op := _, type := _, pos := _, after := _, guard := _ }) (v := ?v3001) rfl (by kernel_rfl) (by kernel_rfl) (by kernel_rfl) (fun _ _ _ h => h) (Or.inl ⟨by rfl, ?hy3001⟩) (by assumption) ?rest3001
        case hy3001 => (intro w hSw; (try dsimp only at hSw); go_simp; (try with_reducible rfl))
        try simp only [Act.put, List.setIfInBounds_toArray, List.set_cons_zero, List.set_cons_succ]
        refine wpAnyH_take (i := 1) (oi := { dst := some 24, op := _, type := _, pos := _, after := _, guard := _ }) (v := ?v3002) rfl (by kernel_rfl) (by kernel_rfl) (by kernel_rfl) (fun _ _ _ h => h) (Or.inl ⟨by rfl, ?hy3002⟩) (by assumption) ?rest3002
        case hy3002 => (intro w hSw; (try dsimp only at hSw); go_simp; (try with_reducible rfl))
        try simp only [Act.put, List.setIfInBounds_toArray, List.set_cons_zero, List.set_cons_succ]
        refine wpAnyH_take (i := 2) (oi := { dst := some 25, op := _, type := _, pos := _, after := _, guard := _ }) (v := ?v3003) rfl (by kernel_rfl) (by kernel_rfl) (by kernel_rfl) (fun _ _ _ h => h) (Or.inl ⟨by rfl, ?hy3003⟩) (by assumption) ?rest3003
        case hy3003 => (intro w hSw; (try dsimp only at hSw); go_simp; (try with_reducible rfl))
        try simp only [Act.put, List.setIfInBounds_toArray, List.set_cons_zero, List.set_cons_succ]
        refine wpAnyH_take (i := 6) (oi := { dst := some 29, op := _, type := _, pos := _, after := _, guard := _ }) (v := ?v3004) rfl (by kernel_rfl) (by kernel_rfl) (by kernel_rfl) (fun _ _ _ h => h) (Or.inl ⟨by rfl, ?hy3004⟩) (by assumption) ?rest3004
        case hy3004 => (intro w hSw; (try dsimp only at hSw); go_simp; (try with_reducible rfl))
        try simp only [Act.put, List.setIfInBounds_toArray, List.set_cons_zero, List.set_cons_succ]
        refine wpAnyH_take (i := 7) (oi := { dst := some 30, op := _, type := _, pos := _, after := _, guard := _ }) (v := ?v3005) rfl (by kernel_rfl) (by kernel_rfl) (by kernel_rfl) (fun _ _ _ h => h) (Or.inl ⟨by rfl, ?hy3005⟩) (by assumption) ?rest3005
        case hy3005 => (intro w hSw; (try dsimp only at hSw); go_simp; (try with_reducible rfl))
        try simp only [Act.put, List.setIfInBounds_toArray, List.set_cons_zero, List.set_cons_succ]
        refine wpAnyH_take (i := 11) (oi := { dst := some 34, op := _, type := _, pos := _, after := _, guard := _ }) (v := ?v3006) rfl (by kernel_rfl) (by kernel_rfl) (by kernel_rfl) (fun _ _ _ h => h) (Or.inl ⟨by rfl, ?hy3006⟩) (by assumption) ?rest3006
        case hy3006 => (intro w hSw; (try dsimp only at hSw); go_simp; (try with_reducible rfl))
        try simp only [Act.put, List.setIfInBounds_toArray, List.set_cons_zero, List.set_cons_succ]
        refine wpAnyH_take (i := 12) (oi := { dst := some 35, op := _, type := _, pos := _, after := _, guard := _ }) (v := ?v3007) rfl (by kernel_rfl) (by kernel_rfl) (by kernel_rfl) (fun _ _ _ h => h) (Or.inl ⟨by rfl, ?hy3007⟩) (by assumption) ?rest3007
        case hy3007 => (intro w hSw; (try dsimp only at hSw); go_simp; (try with_reducible rfl))
        try simp only [Act.put, List.setIfInBounds_toArray, List.set_cons_zero, List.set_cons_succ]
        refine wpAnyH_take (i := 16) (oi := { dst := some 39, op := _, type := _, pos := _, after := _, guard := _ }) (v := ?v3008) rfl (by kernel_rfl) (by kernel_rfl) (by kernel_rfl) (fun _ _ _ h => h) (Or.inl ⟨by rfl, ?hy3008⟩) (by assumption) ?rest3008
        case hy3008 => (intro w hSw; (try dsimp only at hSw); go_simp; (try with_reducible rfl))
        try simp only [Act.put, List.setIfInBounds_toArray, List.set_cons_zero, List.set_cons_succ]
        refine wpAnyH_take (i := 17) (oi := { dst := some 40, op := _, type := _, pos := _, after := _, guard := _ }) (v := ?v3009) rfl (by kernel_rfl) (by kernel_rfl) (by kernel_rfl) (fun _ _ _ h => h) (Or.inl ⟨by rfl, ?hy3009⟩) (by assumption) ?rest3009
        case hy3009 => (intro w hSw; (try dsimp only at hSw); go_simp; (try with_reducible rfl))
        try simp only [Act.put, List.setIfInBounds_toArray, List.set_cons_zero, List.set_cons_succ]
        refine wpAnyH_take (i := 18) (oi := { dst := some 41, op := _, type := _, pos := _, after := _, guard := _ }) (v := ?v3010) rfl (by kernel_rfl) (by kernel_rfl) (by kernel_rfl) (fun _ _ _ h => h) (Or.inl ⟨by rfl, ?hy3010⟩) (by assumption) ?rest3010
        case hy3010 => (intro w hSw; (try dsimp only at hSw); go_simp; (try with_reducible rfl))
        try simp only [Act.put, List.setIfInBounds_toArray, List.set_cons_zero, List.set_cons_succ]
        refine wpAnyH_take (i := 19) (oi := { dst := some 42, op := _, type := _, pos := _, after := _, guard := _ }) (v := ?v3011) rfl (by kernel_rfl) (by kernel_rfl) (by kernel_rfl) (fun _ _ _ h => h) (Or.inl ⟨by rfl, ?hy3011⟩) (by assumption) ?rest3011
        case hy3011 => (intro w hSw; (try dsimp only at hSw); go_simp; (try with_reducible rfl))
        try simp only [Act.put, List.setIfInBounds_toArray, List.set_cons_zero, List.set_cons_succ]
        refine wpAnyH_take (i := 20) (oi := { dst := some 43, op := _, type := _, pos := _, after := _, guard := _ }) (v := ?v3012) rfl (by kernel_rfl) (by kernel_rfl) (by kernel_rfl) (fun _ _ _ h => h) (Or.inl ⟨by rfl, ?hy3012⟩) (by assumption) ?rest3012
        case hy3012 => (intro w hSw; (try dsimp only at hSw); go_simp; (try with_reducible rfl))
        try simp only [Act.put, List.setIfInBounds_toArray, List.set_cons_zero, List.set_cons_succ]
        refine wpAnyH_take (i := 21) (oi := { dst := some 44, op := _, type := _, pos := _, after := _, guard := _ }) (v := ?v3013) rfl (by kernel_rfl) (by kernel_rfl) (by kernel_rfl) (fun _ _ _ h => h) (Or.inl ⟨by rfl, ?hy3013⟩) (by assumption) ?rest3013
        case hy3013 => (intro w hSw; (try dsimp only at hSw); go_simp; (try with_reducible rfl))
        try simp only [Act.put, List.setIfInBounds_toArray, List.set_cons_zero, List.set_cons_succ]
        refine wpAnyH_take (i := 22) (oi := { dst := some 45, op := _, type := _, pos := _, after := _, guard := _ }) (v := ?v3014) rfl (by kernel_rfl) (by kernel_rfl) (by kernel_rfl) (fun _ _ _ h => h) (Or.inl ⟨by rfl, ?hy3014⟩) (by assumption) ?rest3014
        case hy3014 => (intro w hSw; (try dsimp only at hSw); go_simp; (try with_reducible rfl))
        try simp only [Act.put, List.setIfInBounds_toArray, List.set_cons_zero, List.set_cons_succ]
        refine wpAnyH_take (i := 25) (oi := { dst := some 48, op := _, type := _, pos := _, after := _, guard := _ }) (v := ?v3015) rfl (by kernel_rfl) (by kernel_rfl) (by kernel_rfl) (fun _ _ _ h => h) (Or.inl ⟨by rfl, ?hy3015⟩) (by assumption) ?rest3015
        case hy3015 => (intro w hSw; (try dsimp only at hSw); go_simp; (try with_reducible rfl))
        try simp only [Act.put, List.setIfInBounds_toArray, List.set_cons_zero, List.set_cons_succ]
        refine wpAnyH_ready (rs := [3]) (by kernel_rfl) (by simp) ?_
        refine (AllReadyH.cons (o := { dst := some 26, op := _, type := _, pos := _, after := _, guard := _ }) rfl (fun K hK => ?_) AllReadyH.nil)
        · go_simp
          (go_at_call 44; refine (HI0.out _).mono ?_; rintro e w3 ⟨rfl, hx3⟩; have HX3 : Hid (Ext wb w3) := Lib.hid (Ext.trans (by first | exact Ext.refl _ | exact (Ext.refl _).drew) hx3))
          go_wp2_with fail
          refine hK.out _ _ ?_ (fun hHeld => ?_)
          · exact ⟨Ext.cell hx3 hHeld.1, Ext.cell hx3 hHeld.2.1, Ext.cell hx3 hHeld.2.2.1, Ext.cell hx3 hHeld.2.2.2⟩
          clear hK K
          try simp only [Act.put, List.setIfInBounds_toArray, List.set_cons_zero, List.set_cons_succ]
          refine wpAnyH_take (i := 4) (oi := { dst := some 27, op := _, type := _, pos := _, after := _, guard := _ }) (v := ?v3016) rfl (by kernel_rfl) (by kernel_rfl) (by kernel_rfl) (fun _ _ _ h => h) (Or.inl ⟨by rfl, ?hy3016⟩) (by assumption) ?rest3016
          case hy3016 => (intro w hSw; (try dsimp only at hSw); go_simp; try (rw [if_neg (by first | omega | (simp only [ByteArray.size_append]; omega))]))
          try simp only [Act.put, List.setIfInBounds_toArray, List.set_cons_zero, List.set_cons_succ]
          refine wpAnyH_take (i := 5) (oi := { dst := some 28, op := _, type := _, pos := _, after := _, guard := _ }) (v := ?v3017) rfl (by kernel_rfl) (by kernel_rfl) (by kernel_rfl) (fun _ _ _ h => h) (Or.inl ⟨by rfl, ?hy3017⟩) (by assumption) ?rest3017
          case hy3017 => (intro w hSw; (try dsimp only at hSw); go_simp; try (rw [if_neg (by first | omega | (simp only [ByteArray.size_append]; omega))]))
          try simp only [Act.put, List.setIfInBounds_toArray, List.set_cons_zero, List.set_cons_succ]
          refine wpAnyH_ready (rs := [8]) (by kernel_rfl) (by simp) ?_
          refine (AllReadyH.cons (o := { dst := some 31, op := _, type := _, pos := _, after := _, guard := _ }) rfl (fun K hK => ?_) AllReadyH.nil)
          · go_simp
            (go_at_call 44; refine (HI1.out _).mono ?_; rintro e w8 ⟨rfl, hx8⟩; have HX8 : Hid (Ext wb w8) := Lib.hid (Ext.trans (HX3.out.trans (by first | exact Ext.refl _ | exact (Ext.refl _).drew)) hx8))
            go_wp2_with fail
            refine hK.out _ _ ?_ (fun hHeld => ?_)
            · exact ⟨Ext.cell hx8 hHeld.1, Ext.cell hx8 hHeld.2.1, Ext.cell hx8 hHeld.2.2.1, Ext.cell hx8 hHeld.2.2.2⟩
            clear hK K
            try simp only [Act.put, List.setIfInBounds_toArray, List.set_cons_zero, List.set_cons_succ]
            refine wpAnyH_take (i := 9) (oi := { dst := some 32, op := _, type := _, pos := _, after := _, guard := _ }) (v := ?v3018) rfl (by kernel_rfl) (by kernel_rfl) (by kernel_rfl) (fun _ _ _ h => h) (Or.inl ⟨by rfl, ?hy3018⟩) (by assumption) ?rest3018
            case hy3018 => (intro w hSw; (try dsimp only at hSw); go_simp; try (rw [if_neg (by first | omega | (simp only [ByteArray.size_append]; omega))]))
            try simp only [Act.put, List.setIfInBounds_toArray, List.set_cons_zero, List.set_cons_succ]
            refine wpAnyH_take (i := 10) (oi := { dst := some 33, op := _, type := _, pos := _, after := _, guard := _ }) (v := ?v3019) rfl (by kernel_rfl) (by kernel_rfl) (by kernel_rfl) (fun _ _ _ h => h) (Or.inl ⟨by rfl, ?hy3019⟩) (by assumption) ?rest3019
            case hy3019 => (intro w hSw; (try dsimp only at hSw); go_simp; try (rw [if_neg (by first | omega | (simp only [ByteArray.size_append]; omega))]))
            try simp only [Act.put, List.setIfInBounds_toArray, List.set_cons_zero, List.set_cons_succ]
            refine wpAnyH_ready (rs := [13]) (by kernel_rfl) (by simp) ?_
            refine (AllReadyH.cons (o := { dst := some 36, op := _, type := _, pos := _, after := _, guard := _ }) rfl (fun K hK => ?_) AllReadyH.nil)
            · go_simp
              (go_at_call 44; refine (HI2.out _).mono ?_; rintro e w13 ⟨rfl, hx13⟩; have HX13 : Hid (Ext wb w13) := Lib.hid (Ext.trans (HX8.out.trans (by first | exact Ext.refl _ | exact (Ext.refl _).drew)) hx13))
              go_wp2_with fail
              refine hK.out _ _ ?_ (fun hHeld => ?_)
              · exact ⟨Ext.cell hx13 hHeld.1, Ext.cell hx13 hHeld.2.1, Ext.cell hx13 hHeld.2.2.1, Ext.cell hx13 hHeld.2.2.2⟩
              clear hK K
              try simp only [Act.put, List.setIfInBounds_toArray, List.set_cons_zero, List.set_cons_succ]
              refine wpAnyH_take (i := 14) (oi := { dst := some 37, op := _, type := _, pos := _, after := _, guard := _ }) (v := ?v3020) rfl (by kernel_rfl) (by kernel_rfl) (by kernel_rfl) (fun _ _ _ h => h) (Or.inl ⟨by rfl, ?hy3020⟩) (by assumption) ?rest3020
              case hy3020 => (intro w hSw; (try dsimp only at hSw); go_simp; try (rw [if_neg (by first | omega | (simp only [ByteArray.size_append]; omega))]))
              try simp only [Act.put, List.setIfInBounds_toArray, List.set_cons_zero, List.set_cons_succ]
              refine wpAnyH_take (i := 15) (oi := { dst := some 38, op := _, type := _, pos := _, after := _, guard := _ }) (v := ?v3021) rfl (by kernel_rfl) (by kernel_rfl) (by kernel_rfl) (fun _ _ _ h => h) (Or.inl ⟨by rfl, ?hy3021⟩) (by assumption) ?rest3021
              case hy3021 => (intro w hSw; (try dsimp only at hSw); go_simp; try (rw [if_neg (by first | omega | (simp only [ByteArray.size_append]; omega))]))
              try simp only [Act.put, List.setIfInBounds_toArray, List.set_cons_zero, List.set_cons_succ]
              refine wpAnyH_take (i := 23) (oi := { dst := some 46, op := _, type := _, pos := _, after := _, guard := _ }) (v := ?v3022) rfl (by kernel_rfl) (by kernel_rfl) (by kernel_rfl) (fun _ _ _ h => h) (Or.inl ⟨by rfl, ?hy3022⟩) (by assumption) ?rest3022
              case hy3022 => (intro w hSw; (try dsimp only at hSw); go_simp; try (rw [if_neg (by first | omega | (simp only [ByteArray.size_append]; omega))]))
              try simp only [Act.put, List.setIfInBounds_toArray, List.set_cons_zero, List.set_cons_succ]
              refine wpAnyH_take (i := 24) (oi := { dst := some 47, op := _, type := _, pos := _, after := _, guard := _ }) (v := ?v3023) rfl (by kernel_rfl) (by kernel_rfl) (by kernel_rfl) (fun _ _ _ h => h) (Or.inl ⟨by rfl, ?hy3023⟩) (by assumption) ?rest3023
              case hy3023 => (intro w hSw; (try dsimp only at hSw); go_simp; try (rw [if_neg (by first | omega | (simp only [ByteArray.size_append]; omega))]))
              try simp only [Act.put, List.setIfInBounds_toArray, List.set_cons_zero, List.set_cons_succ]
              refine wpAnyH_take (i := 26) (oi := { dst := some 49, op := _, type := _, pos := _, after := _, guard := _ }) (v := ?v3024) rfl (by kernel_rfl) (by kernel_rfl) (by kernel_rfl) (fun _ _ _ h => h) (Or.inl ⟨by rfl, ?hy3024⟩) (by assumption) ?rest3024
              case hy3024 => (intro w hSw; (try dsimp only at hSw); go_simp; try (rw [if_neg (by first | omega | (simp only [ByteArray.size_append]; omega))]))
              try simp only [Act.put, List.setIfInBounds_toArray, List.set_cons_zero, List.set_cons_succ]
              refine wpAnyH_take (i := 27) (oi := { dst := some 50, op := _, type := _, pos := _, after := _, guard := _ }) (v := ?v3025) rfl (by kernel_rfl) (by kernel_rfl) (by kernel_rfl) (fun _ _ _ h => h) (Or.inl ⟨by rfl, ?hy3025⟩) (by assumption) ?rest3025
              case hy3025 => (intro w hSw; (try dsimp only at hSw); go_simp; try (rw [if_neg (by first | omega | (simp only [ByteArray.size_append]; omega))]))
              try simp only [Act.put, List.setIfInBounds_toArray, List.set_cons_zero, List.set_cons_succ]
              refine wpAnyH_take (i := 28) (oi := { dst := some 3, op := _, type := _, pos := _, after := _, guard := _ }) (v := ?v3026) rfl (by kernel_rfl) (by kernel_rfl) (by kernel_rfl) (fun _ _ _ h => h) (Or.inl ⟨by rfl, ?hy3026⟩) (by assumption) ?rest3026
              case hy3026 => (intro w hSw; (try dsimp only at hSw); go_simp; (try with_reducible rfl))
              try simp only [Act.put, List.setIfInBounds_toArray, List.set_cons_zero, List.set_cons_succ]
              refine wpAnyH_done (by kernel_rfl) ?_ _
              have HXQ := Lib.hid (HXB.out.trans (HX13.out.trans (by first | exact Ext.refl _ | exact (Ext.refl _).drew)))
              go_wp2_with fail
              go_roundw
              case rel =>
                refine ⟨k + 1, _, by omega, by go_num, rfl, Lib.hid HEQ.out, ?_, HXQ.out⟩
                rw [HEQ.out]
                exact HSZ.out
              case measure => simp [intOf]; omega
    · have hke : k = n := by omega
      have HFT : Hid (b = strOfNums (Tape.textR L)) := Lib.hid (by rw [HHB.out, hke, ← HN.out, List.take_length])
      clear hke
      go_wp2
      go_ret
      exact ⟨ret_str HFT.out, HXR.out⟩
end Go.Proofs.YtbaahbpianingaaGreatDoor
