import Derived.Test.YtbaahbpianingaaDoorDecked
import Derived.Deep.RegionHeld3
import Derived.Deep.RegionLaw
namespace Go.Proofs.YtbaahbpianingaaDoor
open Go Go.Proofs Go.RowKit
open Acc (Dk red five)
set_option maxHeartbeats 4000000
set_option maxRecDepth 100000
theorem Decimal_c (n : Nat) : ∀ (w : World), n < 4294967296 → Calls Tryd.prog 77 #[.int .u32 (n : Int)] w (SRetS w (strOfNums (Acc.dec n))) := by
  induction n using Nat.strongRecOn with
  | _ n ih =>
    intro w hn
    by_cases h : n < 10
    · have hcv : (convert 23 9 (.slice (some ⟨w.heap.size, 0, none⟩) 1 1)).run Tryd.prog (w.alloc (.cells #[.int .u8 (48 + (n : Int))] 5)) = .ok (.string (strOfNums [48 + (n : Int)])) (w.alloc (.cells #[.int .u8 (48 + (n : Int))] 5)) :=
        Sl.conv (l := [48 + (n : Int)]) (sl_block (heap_alloc_new w _) rfl) 23 5 9 Tryd.underlying23 Tryd.underlying5 Tryd.underlying9 1
      rw [Acc.dec_small h]
      clear ih
      go_enter Tryd.func77, Tryd.ntmps77
      go_wp2
      go_ret
      exact ⟨rfl, (Ext.refl w).alloc _⟩
    · have i1 := Lib.hid (ih (n / 10) (by omega))
      have i2 := Lib.hid (ih (n % 10) (by omega))
      have e1 : Acc.dec (n % 10) = [48 + ((n % 10 : Nat) : Int)] := Acc.dec_small (by omega)
      rw [Acc.dec_big h, ← e1, ← strOfNums_append]
      obtain ⟨d, hd⟩ : ∃ d, n / 10 = d := ⟨_, rfl⟩
      obtain ⟨r, hr⟩ : ∃ r, n % 10 = r := ⟨_, rfl⟩
      have q1 : ((n : Int) / 10) = (d : Int) := by omega
      have q2 : ((n : Int) % 10) = (r : Int) := by omega
      have t1 : (n : Int).tdiv 10 = (d : Int) := by rw [Int.tdiv_eq_ediv_of_nonneg (by omega)]; exact q1
      have t2 : (n : Int).tmod 10 = (r : Int) := by rw [Int.tmod_eq_emod_of_nonneg (by omega)]; exact q2
      have hd0 : d < 4294967296 := by omega
      have hr0 : r < 4294967296 := by omega
      have h10 : ¬ ((n : Int) < 10) := by omega
      rw [hd] at i1
      rw [hr] at i2
      rw [hd, hr]
      have z1 : (strOfNums (Acc.dec d)).size ≤ 10 := by rw [strOfNums_size]; exact Acc.dec_len (by omega) (by omega)
      have z2 : (strOfNums (Acc.dec r)).size ≤ 10 := by rw [strOfNums_size]; exact Acc.dec_len (by omega) (by omega)
      clear ih hd hr q1 q2 e1
      generalize strOfNums (Acc.dec d) = S at *
      generalize strOfNums (Acc.dec r) = R at *
      go_enter Tryd.func77, Tryd.ntmps77
      go_wp2_with fail
      refine (i1.out w hd0).mono ?_
      rintro e w1 ⟨rfl, hx1⟩
      have HX1 := Lib.hid hx1
      clear hx1
      go_wp2_with fail
      refine (i2.out w1 hr0).mono ?_
      rintro e w2 ⟨rfl, hx2⟩
      have HX2 := Lib.hid (HX1.out.trans hx2)
      clear hx2
      go_wp2_with fail
      go_ret
      exact ⟨rfl, HX2.out⟩
theorem padded_c (n k : Nat) (w : World) (hn : n < 100000) (hk : k ≤ 10) : Calls Tryd.prog 50 #[.int .i64 (n : Int), .int .i64 (k : Int)] w (SRetS w (strOfNums (Acc.pad k (Acc.dec n)))) := by
  have hd := Acc.dec_len (n := n) (k := 5) (by omega) (by omega)
  have HI := Lib.hid (Decimal_c n w (by omega))
  unfold Acc.pad
  generalize Acc.dec n = d at *
  obtain ⟨K, hK⟩ : ∃ K : Int, (k : Int) = K := ⟨_, rfl⟩
  go_enter Tryd.func50, Tryd.ntmps50
  go_wp2_with (go_at_call 77; refine HI.out.mono ?_; rintro e w1 ⟨rfl, hx⟩)
  have HX := Lib.hid hx
  clear hx
  go_loop [5] (fun s => ∃ j : Nat, ∃ b, s = .string b ∧ Hid (strOfNums (List.replicate j 48 ++ d) = b) ∧ (j = 0 ∨ j + d.length ≤ k) ∧ b.size = j + d.length) (fun s => k - strLen s)
  case atStart => exact ⟨0, _, rfl, Lib.hid rfl, .inl rfl, by rw [strOfNums_size]; simp⟩
  case round =>
    obtain ⟨j, b, rfl, hb, hj, hs⟩ := hrel
    have HS := Lib.hid hs
    have hs1 : b.size ≤ 20 := by omega
    by_cases hlt : b.size < k
    · have HZ := Lib.hid (zero_more b _ hb.out)
      clear hs
      go_wp2
      go_round
      case rel =>
        have hr : strOfNums (List.replicate (j + 1) 48 ++ d) = (⟨#[48]⟩ : ByteArray) ++ b := by rw [HZ.out, List.replicate_succ, List.cons_append]
        have hs3 := HS.out
        refine ⟨j + 1, _, rfl, Lib.hid hr, .inr ?_, ?_⟩
        · omega
        · rw [HZ.out, strOfNums_size]; simp; omega
      case measure =>
        have hs3 : ((⟨#[48]⟩ : ByteArray) ++ b).size = b.size + 1 := by rw [HZ.out, strOfNums_size]; have := HS.out; simp; omega
        show k - ((⟨#[48]⟩ : ByteArray) ++ b).size < k - b.size
        omega
    · have HR : Hid (b = strOfNums (List.replicate (k - d.length) 48 ++ d)) := Lib.hid (by rw [← hb.out]; congr 3; omega)
      clear hs
      go_wp2
      go_ret
      exact ⟨ret_str HR.out, HX.out⟩
theorem Signed_c (n : Int) (w : World) (h : five n = true) : Calls Tryd.prog 72 #[.int .i64 n] w (SRetS w (strOfNums (Acc.signed n))) := by
  have h5 := Acc.five_iff.1 h
  unfold Acc.signed
  by_cases hn : n < 0
  · obtain ⟨m, rfl⟩ : ∃ m : Nat, n = -(m : Int) := ⟨n.natAbs, by omega⟩
    rw [if_pos hn]
    have e : (-(-(m : Int))).toNat = m := by omega
    rw [e]
    have HI := Lib.hid (Decimal_c m w (by omega))
    have z1 : (strOfNums (Acc.dec m)).size ≤ 10 := by rw [strOfNums_size]; exact Acc.dec_len (by omega) (by omega)
    have HF : Hid ((⟨#[45]⟩ : ByteArray) ++ strOfNums (Acc.dec m) = strOfNums (45 :: Acc.dec m)) := Lib.hid (by
      have e1 : (⟨#[45]⟩ : ByteArray) = strOfNums [45] := rfl
      rw [e1, strOfNums_append]; rfl)
    clear e
    generalize strOfNums (Acc.dec m) = S at *
    go_enter Tryd.func72, Tryd.ntmps72
    go_wp2_with (go_at_call 77; refine HI.out.mono ?_; rintro e w1 ⟨rfl, hx⟩)
    go_ret
    exact ⟨ret_str HF.out, hx⟩
  · obtain ⟨m, rfl⟩ : ∃ m : Nat, n = (m : Int) := ⟨n.natAbs, by omega⟩
    rw [if_neg hn, Int.toNat_natCast]
    have HI := Lib.hid (Decimal_c m w (by omega))
    go_enter Tryd.func72, Tryd.ntmps72
    go_wp2_with (go_at_call 77; refine HI.out.mono ?_; rintro e w1 ⟨rfl, hx⟩)
    go_ret
    exact ⟨rfl, hx⟩
end Go.Proofs.YtbaahbpianingaaDoor
namespace Go.Proofs.YtbaahbpianingaaDoor
open Go Go.Proofs Go.RowKit
open Acc (Dk red five)
set_option maxHeartbeats 4000000
set_option maxRecDepth 100000
theorem ext_cell2 {w w' : World} (h : Ext w w') {b o : Nat} {v : Value} (hc : w.cell? ⟨b, o, none⟩ = some v) : w'.cell? ⟨b, o, none⟩ = some v := by
  rw [← hc]
  exact Below.cell (p := ⟨b, o, none⟩) h (World.block_lt_of_cell? w _ hc)
theorem stay_ext {w w1 w2 : World} {b o : Nat} {v : Value} (h : w1.cell? ⟨b, o, none⟩ = some v ∧ Ext w w1) (hx : Ext w1 w2) : w2.cell? ⟨b, o, none⟩ = some v ∧ Ext w w2 := ⟨ext_cell2 hx h.1, h.2.trans hx⟩
theorem stay_drew {w w1 : World} {b o : Nat} {v : Value} (h : w1.cell? ⟨b, o, none⟩ = some v ∧ Ext w w1) : w1.drew.cell? ⟨b, o, none⟩ = some v ∧ Ext w w1.drew := ⟨h.1, h.2.drew⟩
theorem DeckText_c (A : Option Addr) (l : List Int) (c' : Nat) (w : World) (hl : l.length ≤ 100) (hv : ∀ x ∈ l, five x = true) (h1 : Sl w .i64 A l) : Calls Tryd.prog 27 #[.slice A l.length c'] w (SRetS w (strOfNums (Acc.deckText l))) := by
  have HV := Lib.hid hv
  have HH1 := Lib.hid h1
  clear hv h1
  obtain ⟨n, hn⟩ : ∃ n, l.length = n := ⟨_, rfl⟩
  have HN := Lib.hid hn
  rw [hn] at hl ⊢
  clear hn
  go_enter Tryd.func27, Tryd.ntmps27
  go_wp2
  go_loopw [3, 4] (fun t3 t4 wx => ∃ k : Nat, ∃ b, k ≤ n ∧ t4 = .int .i64 k ∧ t3 = .string b ∧ Hid (b = strOfNums (Acc.deckGo 0 (l.take k))) ∧ b.size ≤ 1000 ∧ Ext w wx) (fun _ t4 _ => n - (intOf t4).toNat)
  case atStart => exact ⟨0, _, Nat.zero_le _, rfl, rfl, Lib.hid rfl, by decide, Ext.refl w⟩
  case round =>
    obtain ⟨k, b, hk, rfl, rfl, hb, hbs, hx⟩ := hrel
    have HXR := Lib.hid hx
    have HHB := Lib.hid hb.out
    have HBS := Lib.hid hbs
    clear hx hb
    by_cases hlt2 : k < n
    · obtain ⟨bb, o, x, rfl, hx, ha⟩ := (HH1.out.ext HXR.out).at2 (i := k) (by rw [HN.out]; exact hlt2)
      have HSN := Lib.hid (deck_snoc hx.out)
      have HDL := Lib.hid (deck_len (l := l) (k := k + 1) (by omega) (by rw [HN.out]; exact hl) HV.out)
      have hx5 := Acc.five_iff.1 (HV.out x (List.mem_of_getElem? hx.out))
      have HP2 : Hid (∀ W : World, Calls Tryd.prog 50 #[.int .i64 (k : Int), .int .i64 2] W (SRetS W (strOfNums (Acc.pad 2 (Acc.dec k))))) := Lib.hid (fun W => padded_c k 2 W (by omega) (by omega))
      have s2 := sz_pad 2 k (by omega) (by omega)
      by_cases hx0 : x = 0
      · subst hx0
        go_wp2
        go_roundw
        case rel =>
          refine ⟨k + 1, _, by omega, by go_num, rfl, Lib.hid ?_, HBS.out, HXR.out⟩
          rw [HHB.out, HSN.out, if_pos rfl, List.append_nil]
        case measure => simp [intOf]; omega
      · have HX0 := Lib.hid hx0
        clear hx0
        by_cases hpos : 0 < x
        · obtain ⟨m, rfl⟩ : ∃ m : Nat, x = m := ⟨x.toNat, by omega⟩
          have hm1 : 1 ≤ m := by omega
          have HP5 : Hid (∀ W : World, Calls Tryd.prog 50 #[.int .i64 (m : Int), .int .i64 5] W (SRetS W (strOfNums (Acc.pad 5 (Acc.dec m))))) := Lib.hid (fun W => padded_c m 5 W (by omega) (by omega))
          have s5 := sz_pad 5 m (by omega) (by omega)
          have HEQ : Hid (b ++ strOfNums (Acc.pad 2 (Acc.dec k)) ++ (⟨#[32, 43]⟩ : ByteArray) ++ strOfNums (Acc.pad 5 (Acc.dec m)) ++ (⟨#[10]⟩ : ByteArray) = strOfNums (Acc.deckGo 0 (l.take (k + 1)))) := Lib.hid (by
            have e2 : (⟨#[32, 43]⟩ : ByteArray) = strOfNums [32, 43] := rfl
            have e3 : (⟨#[10]⟩ : ByteArray) = strOfNums [10] := rfl
            rw [HHB.out, HSN.out, if_neg (by omega), e2, e3]
            unfold Acc.cardF
            rw [if_neg (by omega), Int.natAbs_natCast]
            simp only [strOfNums_append, List.append_assoc, List.cons_append, List.nil_append])
          have S0 : wr.cell? ⟨bb, o + k, none⟩ = some (.int .i64 (m : Int)) ∧ Ext wr wr := ⟨ha, Ext.refl _⟩
          generalize strOfNums (Acc.pad 2 (Acc.dec k)) = C2 at *
          generalize strOfNums (Acc.pad 5 (Acc.dec m)) = C5 at *
          go_wp2
          refine wp_region_held_drew (S := fun w' => w'.cell? ⟨bb, o + k, none⟩ = some (.int .i64 (m : Int)) ∧ Ext wr w') (by kernel_rfl) ?_ (fun hHeld => ?_)
          · exact stay_drew S0
          refine wpAnyH_take (i := 0) (oi := { dst := some 16, op := _, type := _, pos := _, after := _, guard := _ }) (v := ?v601) rfl (by kernel_rfl) (by kernel_rfl) (by kernel_rfl) (fun _ _ _ h => h) (Or.inl ⟨by rfl, ?hy601⟩) (by assumption) ?rest601
          case hy601 => (intro w hSw; (try dsimp only at hSw); go_simp; (try with_reducible rfl))
          try simp only [Act.put, List.setIfInBounds_toArray, List.set_cons_zero, List.set_cons_succ]
          refine wpAnyH_take (i := 1) (oi := { dst := some 17, op := _, type := _, pos := _, after := _, guard := _ }) (v := ?v602) rfl (by kernel_rfl) (by kernel_rfl) (by kernel_rfl) (fun _ _ _ h => h) (Or.inl ⟨by rfl, ?hy602⟩) (by assumption) ?rest602
          case hy602 => (intro w hSw; (try dsimp only at hSw); go_simp; (try with_reducible rfl))
          try simp only [Act.put, List.setIfInBounds_toArray, List.set_cons_zero, List.set_cons_succ]
          refine wpAnyH_take (i := 5) (oi := { dst := some 21, op := _, type := _, pos := _, after := _, guard := _ }) (v := ?v603) rfl (by kernel_rfl) (by kernel_rfl) (by kernel_rfl) (fun _ _ _ h => h) (Or.inl ⟨by rfl, ?hy603⟩) (by assumption) ?rest603
          case hy603 => (intro w hSw; (try dsimp only at hSw); go_simp; (try with_reducible rfl))
          try simp only [Act.put, List.setIfInBounds_toArray, List.set_cons_zero, List.set_cons_succ]
          refine wpAnyH_take (i := 6) (oi := { dst := some 22, op := _, type := _, pos := _, after := _, guard := _ }) (v := ?v604) rfl (by kernel_rfl) (by kernel_rfl) (by kernel_rfl) (fun _ _ _ h => h) (Or.inl ⟨by rfl, ?hy604⟩) (by assumption) ?rest604
          case hy604 => (intro w hSw; (try dsimp only at hSw); go_simp; (try with_reducible rfl))
          try simp only [Act.put, List.setIfInBounds_toArray, List.set_cons_zero, List.set_cons_succ]
          refine wpAnyH_take (i := 7) (oi := { dst := some 23, op := _, type := _, pos := _, after := _, guard := _ }) (v := ?v605) rfl (by kernel_rfl) (by kernel_rfl) (by kernel_rfl) (fun _ _ _ h => h) (Or.inl ⟨by rfl, ?hy605⟩) (by assumption) ?rest605
          case hy605 => (intro w hSw; (try dsimp only at hSw); go_simp; (try with_reducible rfl))
          try simp only [Act.put, List.setIfInBounds_toArray, List.set_cons_zero, List.set_cons_succ]
          refine wpAnyH_take (i := 8) (oi := { dst := some 24, op := _, type := _, pos := _, after := _, guard := _ }) (v := ?v606) rfl (by kernel_rfl) (by kernel_rfl) (by kernel_rfl) (fun _ _ _ h => h) (Or.inl ⟨by rfl, ?hy606⟩) (by assumption) ?rest606
          case hy606 => (intro w hSw; (try dsimp only at hSw); go_simp; (try with_reducible rfl))
          try simp only [Act.put, List.setIfInBounds_toArray, List.set_cons_zero, List.set_cons_succ]
          refine wpAnyH_ready (rs := [2]) (by kernel_rfl) (by simp) ?_
          refine (AllReadyH.cons (o := { dst := some 18, op := _, type := _, pos := _, after := _, guard := _ }) rfl (fun K hK => ?_) AllReadyH.nil)
          · go_simp
            (with_reducible refine (HP2.out _).mono ?_)
            rintro e w5 ⟨rfl, hx5⟩
            have q1 := stay_ext (by first | exact q1 | exact stay_drew q1 | exact S0 | exact stay_drew S0) hx5
            clear hx5
            go_wp2_with fail
            refine hK.out _ _ ?_ (fun hHeld => ?_)
            · first | exact q1 | exact stay_drew q1 | exact S0 | exact stay_drew S0 | assumption
            clear hK K
            try simp only [Act.put, List.setIfInBounds_toArray, List.set_cons_zero, List.set_cons_succ]
            refine wpAnyH_take (i := 3) (oi := { dst := some 19, op := _, type := _, pos := _, after := _, guard := _ }) (v := ?v607) rfl (by kernel_rfl) (by kernel_rfl) (by kernel_rfl) (fun _ _ _ h => h) (Or.inl ⟨by rfl, ?hy607⟩) (by assumption) ?rest607
            case hy607 => (intro w hSw; (try dsimp only at hSw); go_simp; rw [if_neg (by omega)])
            try simp only [Act.put, List.setIfInBounds_toArray, List.set_cons_zero, List.set_cons_succ]
            refine wpAnyH_take (i := 4) (oi := { dst := some 20, op := _, type := _, pos := _, after := _, guard := _ }) (v := ?v608) rfl (by kernel_rfl) (by kernel_rfl) (by kernel_rfl) (fun _ _ _ h => h) (Or.inl ⟨by rfl, ?hy608⟩) (by assumption) ?rest608
            case hy608 => (intro w hSw; (try dsimp only at hSw); go_simp; rw [if_neg (by omega)])
            try simp only [Act.put, List.setIfInBounds_toArray, List.set_cons_zero, List.set_cons_succ]
            refine wpAnyH_ready (rs := [9]) (by kernel_rfl) (by simp) ?_
            refine (AllReadyH.cons (o := { dst := some 25, op := _, type := _, pos := _, after := _, guard := _ }) rfl (fun K hK => ?_) AllReadyH.nil)
            · go_simp
              (with_reducible refine (HP5.out _).mono ?_)
              rintro e w5 ⟨rfl, hx5⟩
              have q1 := stay_ext (by first | exact q1 | exact stay_drew q1 | exact S0 | exact stay_drew S0) hx5
              clear hx5
              go_wp2_with fail
              refine hK.out _ _ ?_ (fun hHeld => ?_)
              · first | exact q1 | exact stay_drew q1 | exact S0 | exact stay_drew S0 | assumption
              clear hK K
              try simp only [Act.put, List.setIfInBounds_toArray, List.set_cons_zero, List.set_cons_succ]
              refine wpAnyH_take (i := 10) (oi := { dst := some 26, op := _, type := _, pos := _, after := _, guard := _ }) (v := ?v609) rfl (by kernel_rfl) (by kernel_rfl) (by kernel_rfl) (fun _ _ _ h => h) (Or.inl ⟨by rfl, ?hy609⟩) (by assumption) ?rest609
              case hy609 => (intro w hSw; (try dsimp only at hSw); go_simp; rw [if_neg (by omega)])
              try simp only [Act.put, List.setIfInBounds_toArray, List.set_cons_zero, List.set_cons_succ]
              refine wpAnyH_take (i := 11) (oi := { dst := some 27, op := _, type := _, pos := _, after := _, guard := _ }) (v := ?v610) rfl (by kernel_rfl) (by kernel_rfl) (by kernel_rfl) (fun _ _ _ h => h) (Or.inl ⟨by rfl, ?hy610⟩) (by assumption) ?rest610
              case hy610 => (intro w hSw; (try dsimp only at hSw); go_simp; rw [if_neg (by omega)])
              try simp only [Act.put, List.setIfInBounds_toArray, List.set_cons_zero, List.set_cons_succ]
              refine wpAnyH_take (i := 12) (oi := { dst := some 3, op := _, type := _, pos := _, after := _, guard := _ }) (v := ?v611) rfl (by kernel_rfl) (by kernel_rfl) (by kernel_rfl) (fun _ _ _ h => h) (Or.inl ⟨by rfl, ?hy611⟩) (by assumption) ?rest611
              case hy611 => (intro w hSw; (try dsimp only at hSw); go_simp; (try with_reducible rfl))
              try simp only [Act.put, List.setIfInBounds_toArray, List.set_cons_zero, List.set_cons_succ]
              refine wpAnyH_done (by kernel_rfl) ?_ _
              have HXQ := Lib.hid (HXR.out.trans q1.2)
              clear q1 S0
              go_wp2_with fail
              go_roundw
              case rel =>
                refine ⟨k + 1, _, by omega, by go_num, rfl, Lib.hid HEQ.out, ?_, HXQ.out⟩
                rw [HEQ.out]
                have := HDL.out
                omega
              case measure => simp [intOf]; omega
        · obtain ⟨m, rfl⟩ : ∃ m : Nat, x = -(m : Int) := ⟨x.natAbs, by omega⟩
          have hm1 : 1 ≤ m := by have := HX0.out; omega
          have HP5 : Hid (∀ W : World, Calls Tryd.prog 50 #[.int .i64 (m : Int), .int .i64 5] W (SRetS W (strOfNums (Acc.pad 5 (Acc.dec m))))) := Lib.hid (fun W => padded_c m 5 W (by omega) (by omega))
          have s5 := sz_pad 5 m (by omega) (by omega)
          have HEQ : Hid (b ++ strOfNums (Acc.pad 2 (Acc.dec k)) ++ (⟨#[32, 45]⟩ : ByteArray) ++ strOfNums (Acc.pad 5 (Acc.dec m)) ++ (⟨#[10]⟩ : ByteArray) = strOfNums (Acc.deckGo 0 (l.take (k + 1)))) := Lib.hid (by
            have e2 : (⟨#[32, 45]⟩ : ByteArray) = strOfNums [32, 45] := rfl
            have e3 : (⟨#[10]⟩ : ByteArray) = strOfNums [10] := rfl
            rw [HHB.out, HSN.out, if_neg (by omega), e2, e3]
            unfold Acc.cardF
            rw [if_pos (by omega), Int.natAbs_neg, Int.natAbs_natCast]
            simp only [strOfNums_append, List.append_assoc, List.cons_append, List.nil_append])
          have hwm : IntKind.i64.wrap (m : Int) = (m : Int) := IntWalk.i64_in _ (by omega)
          have S0 : wr.cell? ⟨bb, o + k, none⟩ = some (.int .i64 (-(m : Int))) ∧ Ext wr wr := ⟨ha, Ext.refl _⟩
          generalize strOfNums (Acc.pad 2 (Acc.dec k)) = C2 at *
          generalize strOfNums (Acc.pad 5 (Acc.dec m)) = C5 at *
          go_wp2
          refine wp_region_held_drew (S := fun w' => w'.cell? ⟨bb, o + k, none⟩ = some (.int .i64 (-(m : Int))) ∧ Ext wr w') (by kernel_rfl) ?_ (fun hHeld => ?_)
          · exact stay_drew S0
          refine wpAnyH_take (i := 0) (oi := { dst := some 33, op := _, type := _, pos := _, after := _, guard := _ }) (v := ?v801) rfl (by kernel_rfl) (by kernel_rfl) (by kernel_rfl) (fun _ _ _ h => h) (Or.inl ⟨by rfl, ?hy801⟩) (by assumption) ?rest801
          case hy801 => (intro w hSw; (try dsimp only at hSw); go_simp; (try with_reducible rfl))
          try simp only [Act.put, List.setIfInBounds_toArray, List.set_cons_zero, List.set_cons_succ]
          refine wpAnyH_take (i := 1) (oi := { dst := some 34, op := _, type := _, pos := _, after := _, guard := _ }) (v := ?v802) rfl (by kernel_rfl) (by kernel_rfl) (by kernel_rfl) (fun _ _ _ h => h) (Or.inl ⟨by rfl, ?hy802⟩) (by assumption) ?rest802
          case hy802 => (intro w hSw; (try dsimp only at hSw); go_simp; (try with_reducible rfl))
          try simp only [Act.put, List.setIfInBounds_toArray, List.set_cons_zero, List.set_cons_succ]
          refine wpAnyH_take (i := 5) (oi := { dst := some 38, op := _, type := _, pos := _, after := _, guard := _ }) (v := ?v803) rfl (by kernel_rfl) (by kernel_rfl) (by kernel_rfl) (fun _ _ _ h => h) (Or.inl ⟨by rfl, ?hy803⟩) (by assumption) ?rest803
          case hy803 => (intro w hSw; (try dsimp only at hSw); go_simp; (try with_reducible rfl))
          try simp only [Act.put, List.setIfInBounds_toArray, List.set_cons_zero, List.set_cons_succ]
          refine wpAnyH_take (i := 6) (oi := { dst := some 39, op := _, type := _, pos := _, after := _, guard := _ }) (v := ?v804) rfl (by kernel_rfl) (by kernel_rfl) (by kernel_rfl) (fun _ _ _ h => h) (Or.inl ⟨by rfl, ?hy804⟩) (by assumption) ?rest804
          case hy804 => (intro w hSw; (try dsimp only at hSw); go_simp; (try with_reducible rfl))
          try simp only [Act.put, List.setIfInBounds_toArray, List.set_cons_zero, List.set_cons_succ]
          refine wpAnyH_take (i := 7) (oi := { dst := some 40, op := _, type := _, pos := _, after := _, guard := _ }) (v := ?v805) rfl (by kernel_rfl) (by kernel_rfl) (by kernel_rfl) (fun _ _ _ h => h) (Or.inl ⟨by rfl, ?hy805⟩) (by assumption) ?rest805
          case hy805 => (intro w hSw; (try dsimp only at hSw); go_simp; (try with_reducible rfl))
          try simp only [Act.put, List.setIfInBounds_toArray, List.set_cons_zero, List.set_cons_succ]
          refine wpAnyH_take (i := 8) (oi := { dst := some 41, op := _, type := _, pos := _, after := _, guard := _ }) (v := ?v806) rfl (by kernel_rfl) (by kernel_rfl) (by kernel_rfl) (fun _ _ _ h => h) (Or.inl ⟨by rfl, ?hy806⟩) (by assumption) ?rest806
          case hy806 => (intro w hSw; (try dsimp only at hSw); go_simp; (try with_reducible rfl))
          try simp only [Act.put, List.setIfInBounds_toArray, List.set_cons_zero, List.set_cons_succ]
          refine wpAnyH_take (i := 9) (oi := { dst := some 42, op := _, type := _, pos := _, after := _, guard := _ }) (v := ?v807) rfl (by kernel_rfl) (by kernel_rfl) (by kernel_rfl) (fun _ _ _ h => h) (Or.inl ⟨by rfl, ?hy807⟩) (by assumption) ?rest807
          case hy807 => (intro w hSw; (try dsimp only at hSw); go_simp; (try with_reducible rfl))
          try simp only [Act.put, List.setIfInBounds_toArray, List.set_cons_zero, List.set_cons_succ]
          refine wpAnyH_ready (rs := [2]) (by kernel_rfl) (by simp) ?_
          refine (AllReadyH.cons (o := { dst := some 35, op := _, type := _, pos := _, after := _, guard := _ }) rfl (fun K hK => ?_) AllReadyH.nil)
          · go_simp
            (with_reducible refine (HP2.out _).mono ?_)
            rintro e w5 ⟨rfl, hx5⟩
            have q1 := stay_ext (by first | exact q1 | exact stay_drew q1 | exact S0 | exact stay_drew S0) hx5
            clear hx5
            go_wp2_with fail
            refine hK.out _ _ ?_ (fun hHeld => ?_)
            · first | exact q1 | exact stay_drew q1 | exact S0 | exact stay_drew S0 | assumption
            clear hK K
            try simp only [Act.put, List.setIfInBounds_toArray, List.set_cons_zero, List.set_cons_succ]
            refine wpAnyH_take (i := 3) (oi := { dst := some 36, op := _, type := _, pos := _, after := _, guard := _ }) (v := ?v808) rfl (by kernel_rfl) (by kernel_rfl) (by kernel_rfl) (fun _ _ _ h => h) (Or.inl ⟨by rfl, ?hy808⟩) (by assumption) ?rest808
            case hy808 => (intro w hSw; (try dsimp only at hSw); go_simp; rw [if_neg (by omega)])
            try simp only [Act.put, List.setIfInBounds_toArray, List.set_cons_zero, List.set_cons_succ]
            refine wpAnyH_take (i := 4) (oi := { dst := some 37, op := _, type := _, pos := _, after := _, guard := _ }) (v := ?v809) rfl (by kernel_rfl) (by kernel_rfl) (by kernel_rfl) (fun _ _ _ h => h) (Or.inl ⟨by rfl, ?hy809⟩) (by assumption) ?rest809
            case hy809 => (intro w hSw; (try dsimp only at hSw); go_simp; rw [if_neg (by omega)])
            try simp only [Act.put, List.setIfInBounds_toArray, List.set_cons_zero, List.set_cons_succ]
            refine wpAnyH_ready (rs := [10]) (by kernel_rfl) (by simp) ?_
            refine (AllReadyH.cons (o := { dst := some 43, op := _, type := _, pos := _, after := _, guard := _ }) rfl (fun K hK => ?_) AllReadyH.nil)
            · go_simp
              (with_reducible refine (HP5.out _).mono ?_)
              rintro e w5 ⟨rfl, hx5⟩
              have q1 := stay_ext (by first | exact q1 | exact stay_drew q1 | exact S0 | exact stay_drew S0) hx5
              clear hx5
              go_wp2_with fail
              refine hK.out _ _ ?_ (fun hHeld => ?_)
              · first | exact q1 | exact stay_drew q1 | exact S0 | exact stay_drew S0 | assumption
              clear hK K
              try simp only [Act.put, List.setIfInBounds_toArray, List.set_cons_zero, List.set_cons_succ]
              refine wpAnyH_take (i := 11) (oi := { dst := some 44, op := _, type := _, pos := _, after := _, guard := _ }) (v := ?v810) rfl (by kernel_rfl) (by kernel_rfl) (by kernel_rfl) (fun _ _ _ h => h) (Or.inl ⟨by rfl, ?hy810⟩) (by assumption) ?rest810
              case hy810 => (intro w hSw; (try dsimp only at hSw); go_simp; rw [if_neg (by omega)])
              try simp only [Act.put, List.setIfInBounds_toArray, List.set_cons_zero, List.set_cons_succ]
              refine wpAnyH_take (i := 12) (oi := { dst := some 45, op := _, type := _, pos := _, after := _, guard := _ }) (v := ?v811) rfl (by kernel_rfl) (by kernel_rfl) (by kernel_rfl) (fun _ _ _ h => h) (Or.inl ⟨by rfl, ?hy811⟩) (by assumption) ?rest811
              case hy811 => (intro w hSw; (try dsimp only at hSw); go_simp; rw [if_neg (by omega)])
              try simp only [Act.put, List.setIfInBounds_toArray, List.set_cons_zero, List.set_cons_succ]
              refine wpAnyH_take (i := 13) (oi := { dst := some 3, op := _, type := _, pos := _, after := _, guard := _ }) (v := ?v812) rfl (by kernel_rfl) (by kernel_rfl) (by kernel_rfl) (fun _ _ _ h => h) (Or.inl ⟨by rfl, ?hy812⟩) (by assumption) ?rest812
              case hy812 => (intro w hSw; (try dsimp only at hSw); go_simp; (try with_reducible rfl))
              try simp only [Act.put, List.setIfInBounds_toArray, List.set_cons_zero, List.set_cons_succ]
              refine wpAnyH_done (by kernel_rfl) ?_ _
              have HXQ := Lib.hid (HXR.out.trans q1.2)
              clear q1 S0
              go_wp2_with fail
              go_roundw
              case rel =>
                refine ⟨k + 1, _, by omega, by go_num, rfl, Lib.hid HEQ.out, ?_, HXQ.out⟩
                rw [HEQ.out]
                have := HDL.out
                omega
              case measure => simp [intOf]; omega
    · have hke : k = n := by omega
      have HFT : Hid (b = strOfNums (Acc.deckText l)) := Lib.hid (by rw [HHB.out, hke, ← HN.out, List.take_length]; rfl)
      clear hke
      go_wp2
      go_ret
      exact ⟨ret_str HFT.out, HXR.out⟩
end Go.Proofs.YtbaahbpianingaaDoor
