import Derived.Test.YtbhcaniopdgjkaaMg8
import Derived.Test.YtbhcaniopdgjkaaMg26
import Derived.Test.YtbhcaniopdgjkaaMg28
import Derived.Test.YtbhcaniopdgjkaaMg25
import Derived.Test.YtbhcaniopdgjkaaMg9
namespace Go.Proofs.Ytbhcaniopdgjkaa
open Go Go.Proofs Go.RowKit
set_option maxHeartbeats 1000000
set_option maxRecDepth 100000
theorem cmp_ne {x y : Int} (h : x ≠ y) : (Lib.compareInt x y != 0) = true ∧ decide (Lib.compareInt x y < 0) = decide (x < y) := by
  unfold Lib.compareInt
  by_cases h1 : x < y
  · simp [h1]
  · have : y < x := by omega
    simp [h1, this]
theorem cmp_eq (x : Int) : Lib.compareInt x x = 0 := by
  unfold Lib.compareInt
  simp
theorem Compare_c (A B : Option Addr) (a b : List Int) (c d : Nat) (w : World) (ha : a.length ≤ maxLen) (_hb : b.length ≤ maxLen) (h1 : Sl w .i64 A a) (h2 : Sl w .i64 B b) :
    Calls Try.prog 90 #[.slice A a.length c, .slice B b.length d] w fun e w' => ∃ r : Int, e = .returned (.int .i64 r) ∧ decide (r < 0) = Plain.lexB a b ∧ w = w' := by
  unfold maxLen at ha
  obtain ⟨r, hr⟩ : ∃ r, Plain.lexB a b = r := ⟨_, rfl⟩
  rw [hr]
  have HRR := Lib.hid hr
  obtain ⟨p, hp⟩ : ∃ p, p = a.length := ⟨_, rfl⟩
  obtain ⟨q, hq⟩ : ∃ q, q = b.length := ⟨_, rfl⟩
  rw [← hp] at ha ⊢
  rw [← hq]
  have HP := Lib.hid hp
  have HQ := Lib.hid hq
  clear hp hq hr
  go_enter Try.func90, Try.ntmps90
  go_wp2
  go_loop [11] (fun i => ∃ k : Nat, k ≤ p ∧ k ≤ q ∧ i = .int .i64 k ∧ lexTo a b k) (fun i => p - (intOf i).toNat)
  case atStart => exact ⟨0, Nat.zero_le _, Nat.zero_le _, rfl, rfl⟩
  case round =>
    obtain ⟨k, hk, hk', rfl, hr⟩ := hrel
    have HR := Lib.hid hr
    clear hr
    by_cases hlt : k < p
    · have hkl : k < a.length := by rw [← HP.out]; exact hlt
      obtain ⟨b1, o1, x, rfl, hx, hc1⟩ := h1.at2 hkl
      by_cases hlq : k < q
      · have hkm : k < b.length := by rw [← HQ.out]; exact hlq
        obtain ⟨b2, o2, y, rfl, hy, hc2⟩ := h2.at2 hkm
        clear hkl hkm
        by_cases hxy : x = y
        · subst hxy
          have hce := cmp_eq x
          go_wp2_with (go_at_call 107; refine (Try.cmp_Compare_int _ _ _).mono ?_; rintro e w' ⟨rfl, rfl⟩; rw [hce])
          go_round
          case rel => exact ⟨k + 1, by omega, by omega, by go_num, lex_next HR.out hx.out hy.out⟩
          case measure => simp [intOf]; omega
        · have HC := Lib.hid ((cmp_ne hxy).2.trans ((lex_ne HR.out hx.out hy.out hxy).symm.trans HRR.out))
          have hne := (cmp_ne hxy).1
          have HCM := Lib.hid (Try.cmp_Compare_int x y w)
          generalize Lib.compareInt x y = cc at HC hne HCM
          go_wp2_with (go_at_call 107; refine HCM.out.mono ?_; rintro e w' ⟨rfl, rfl⟩)
          go_ret
          exact ⟨cc, rfl, HC.out, rfl⟩
      · have HE : Hid (decide ((1 : Int) < 0) = r) := by
          show _ = _
          rw [← HRR.out, lex_end HR.out (by rw [← HP.out]; exact hk) (by rw [← HQ.out]; exact hk') (.inr (by rw [← HQ.out]; omega))]
          rw [← HP.out, ← HQ.out]
          simp; omega
        clear hkl
        go_wp2
        go_ret
        exact ⟨1, rfl, HE.out, rfl⟩
    · have HE : Hid (decide ((p : Int) < (q : Int)) = r) := by
        show _ = _
        rw [← HRR.out, lex_end HR.out (by rw [← HP.out]; exact hk) (by rw [← HQ.out]; exact hk') (.inl (by rw [← HP.out]; omega))]
        rw [← HP.out, ← HQ.out]
      by_cases hpq : p < q
      · go_wp2
        go_ret
        exact ⟨-1, rfl, by rw [← HE.out]; simp [hpq], rfl⟩
      · go_wp2
        go_ret
        exact ⟨0, rfl, by rw [← HE.out]; simp [hpq], rfl⟩
end Go.Proofs.Ytbhcaniopdgjkaa
namespace Go.Proofs.Ytbhcaniopdgjkaa
open Go Go.Proofs Go.RowKit
open Plain (SiteD)
set_option maxHeartbeats 1000000
set_option maxRecDepth 100000
theorem bits_one (m : Nat) (h : m < 4611686018427387904) : bits .and .i64 (m : Int) 1 = ((m % 2 : Nat) : Int) := by
  have h1 : (BitVec.ofInt 64 (m : Int) &&& BitVec.ofInt 64 1).toNat = m % 2 := by
    rw [BitVec.toNat_and]
    have e1 : (BitVec.ofInt 64 (m : Int)).toNat = m := by
      rw [BitVec.ofInt_natCast, BitVec.toNat_ofNat]
      exact Nat.mod_eq_of_lt (by omega)
    have e2 : (BitVec.ofInt 64 1).toNat = 1 := by decide
    rw [e1, e2, Nat.and_one_is_mod]
  show IntKind.i64.wrap ((BitVec.ofInt 64 (m : Int) &&& BitVec.ofInt 64 1).toNat : Int) = _
  rw [h1]
  exact IntWalk.i64_in _ (by omega)
theorem shr_nat (k j : Nat) : (k : Int) / 2 ^ j = ((k / 2 ^ j : Nat) : Int) := by
  rw [Int.natCast_ediv, Int.natCast_pow]
  rfl
theorem shl_wrap {n : Nat} (h : n ≤ 20) : IntKind.i64.wrap (2 ^ n) = powI n := by
  have e : (2 : Int) ^ n = powI n := by unfold powI; rw [Int.natCast_pow]; rfl
  rw [e]
  have := powI_le h
  exact IntWalk.i64_in _ (by omega)
theorem div_next (k j : Nat) : k / 2 ^ j / 2 = k / 2 ^ (j + 1) := by rw [Nat.div_div_eq_div_mul, Nat.pow_succ]
/-- What has been found so far stands in the variables. -/
structure BestV (w wr : World) (L : List SiteD) (st : Option (List Int)) (v9 v10 v11 : Value) : Prop where
  lv : LB wr w.heap.size v9 (st.getD [])
  cost : v10 = .int .i64 (costF L (st.getD []))
  some_ : v11 = .bool st.isSome
  x : Ext w wr
theorem BestV.ext {w wr w1 : World} {L : List SiteD} {st : Option (List Int)} {v9 v10 v11 : Value} (h : BestV w wr L st v9 v10 v11) (e : Ext wr w1) : BestV w w1 L st v9 v10 v11 := ⟨h.lv.ext e, h.cost, h.some_, h.x.trans e⟩
theorem best0 (w : World) (L : List SiteD) : BestV w w L none (.slice none 0 0) (.int .i64 0) (.bool false) := ⟨LB.nil _ _, rfl, rfl, Ext.refl _⟩
/-- A new row of numbers, copied from another one. -/
theorem copy_new (w : World) (ty : TypeId) (n : Nat) (R : Option Addr) (c : Nat) (l : List Int) (hl : l.length = n) (hs : Sl w .i64 R l) (hn : n ≤ 1000) :
    ∃ w' , (Builtin.copy_ #[23, 23] ty #[.slice (some ⟨w.heap.size, 0, none⟩) n n, .slice R n c]).run Try.prog (w.alloc (.cells (mkRow n) 3)) = .ok (goInt n) w' ∧ Ext w w' ∧ Sl w' .i64 (some ⟨w.heap.size, 0, none⟩) l := by
  have hx : Ext w (w.alloc (.cells (mkRow n) 3)) := (Ext.refl w).alloc _
  have h3 : (Try.prog.info? 3).map (·.size) = some 1 := by
    obtain ⟨i, hi, hz⟩ := info3'
    rw [hi]; simp [hz]
  have hb := new_blk w (.cells (mkRow n) 3)
  by_cases h0 : n = 0
  · subst h0
    have hl0 : l = [] := List.eq_nil_of_length_eq_zero hl
    subst hl0
    exact ⟨_, run_copy_none (P := Try.prog) _ 23 23 ty 3 (some ⟨w.heap.size, 0, none⟩) R 0 0 0 c Try.underlying23 h3 rfl, hx, SlC.nil _ _⟩
  · obtain ⟨b, o, hA, _⟩ := hs.at_ (i := 0) (by omega)
    subst hA
    have hcell : ∀ j, j < (l.map (Value.int .i64)).length → ((w.alloc (.cells (mkRow n) 3)).cell? ⟨w.heap.size, 0 + j, none⟩).isSome = true := by
      intro j hj
      rw [List.length_map] at hj
      rw [blk_cell hb, Nat.zero_add, Array.getElem?_eq_getElem (by rw [mkRow_size]; omega)]
      rfl
    have hr := run_copy_cells (P := Try.prog) (w.alloc (.cells (mkRow n) 3)) 23 23 ty 3 w.heap.size 0 n n ⟨b, o, none⟩ n c (l.map (Value.int .i64)) Try.underlying23 h3 (by rw [List.length_map, hl]; exact (Nat.min_self n).symm) (fun j v hv => by
        obtain ⟨a, ha, hc⟩ := (hs.ext hx) j v hv
        cases ha
        exact hc) hcell (fun j _ => blk_frozen hb _) ints_one
    rw [List.length_map, hl] at hr
    refine ⟨_, hr, ?_, ?_⟩
    · obtain ⟨o1, o2, o3⟩ := setCells_os (b := w.heap.size) (l.map (Value.int .i64)) 0 (w.alloc (.cells (mkRow n) 3))
      refine ⟨o1.trans hx.os, o2.trans hx.tape, o3.trans hx.output, by rw [setCells_size]; exact hx.size, fun k hk => ?_⟩
      rw [setCells_other (by omega)]
      exact hx.block k hk
    · refine Sl.mk fun i x hx' => ⟨_, rfl, ?_⟩
      have hi := (List.getElem?_eq_some_iff.1 hx').1
      have hadd : (⟨w.heap.size, 0, none⟩ : Addr).add i = ⟨w.heap.size, 0 + i, none⟩ := by
        unfold Addr.add
        by_cases h0 : i = 0
        · subst h0; simp
        · simp [h0]
      rw [hadd]
      have h4 := World.cell?_setCells_in w.heap.size (l.map (Value.int .i64)) 0 (w.alloc (.cells (mkRow n) 3)) hcell i (by simpa using hi)
      rw [h4, List.getElem_map, (List.getElem?_eq_some_iff.1 hx').2]
theorem better_form (cost : List Int → Int) (c : List Int) (st : Option (List Int)) : Plain.betterO cost c st = (!st.isSome || (decide (cost c < cost (st.getD [])) || (decide (cost c = cost (st.getD [])) && (decide (c.length < (st.getD []).length) || (decide (c.length = (st.getD []).length) && Plain.lexB c (st.getD [])))))) := by
  cases st with
  | none => simp [Plain.betterO]
  | some b => simp [Plain.betterO, Plain.betterB]
end Go.Proofs.Ytbhcaniopdgjkaa
namespace Go.Proofs.Ytbhcaniopdgjkaa
open Go Go.Proofs Go.RowKit
open Plain (SiteD)
set_option maxHeartbeats 1000000
set_option maxRecDepth 100000
def apartTo (L : List SiteD) (need : Int) (ch : List Int) (k : Nat) : Prop := ∀ z : Nat, z < k → (Plain.inZone L ch (z : Int) : Int) < need
theorem apart_all {L : List SiteD} {need : Int} {ch : List Int} (h : apartTo L need ch 12) : Plain.apartF L need ch = true := by
  unfold Plain.apartF
  rw [List.all_eq_true]
  intro z hz
  obtain ⟨k, hk, rfl⟩ := List.mem_map.1 hz
  exact decide_eq_true (h k (List.mem_range.1 hk))
theorem apart_not {L : List SiteD} {need : Int} {ch : List Int} {k : Nat} (hk : k < 12) (h : ¬ (Plain.inZone L ch (k : Int) : Int) < need) : Plain.apartF L need ch = false := by
  cases hb : Plain.apartF L need ch with
  | false => rfl
  | true =>
    unfold Plain.apartF at hb
    rw [List.all_eq_true] at hb
    exact absurd (of_decide_eq_true (hb _ (List.mem_map.2 ⟨k, List.mem_range.2 hk, rfl⟩))) h
theorem ApartOf_c (A C : Option Addr) (L : List SiteD) (ch : List Int) (c1 c2 : Nat) (need : Int) (w : World) (hc : ch.length ≤ 100000) (hL : L.length ≤ 100000) (h1 : Sites w A L) (h2 : Sl w .i64 C ch) (hv : ∀ i ∈ ch, 0 ≤ i ∧ i < L.length) :
    Calls Try.prog 74 #[.slice A L.length c1, .slice C ch.length c2, .int .i64 need] w (BRet w (Plain.apartF L need ch)) := by
  have HLO := Lib.hid (fun w' (x : Ext w w') (z : Int) D d (hs : Sl w' .i64 D [z]) => LeftOf_c A C D L ch [z] c1 c2 d w' hc (by unfold maxLen; simp) hL (h1.ext x) (h2.ext x) hs hv)
  have HLZ := Lib.hid (fun z => Plain.left_zone L ch z)
  have HAA := Lib.hid (fun h => apart_all (L := L) (need := need) (ch := ch) h)
  have HAN := Lib.hid (fun k hk h => apart_not (L := L) (need := need) (ch := ch) (k := k) hk h)
  obtain ⟨n, hn⟩ : ∃ n, n = ch.length := ⟨_, rfl⟩
  rw [← hn] at hc HLZ HLO ⊢
  clear h1 h2 hv hn
  generalize Plain.apartF L need ch = AP at *
  go_enter Try.func74, Try.ntmps74
  go_wp2
  go_loopw [7] (fun v wr => ∃ k : Nat, k ≤ 12 ∧ v = .int .i64 k ∧ apartTo L need ch k ∧ Ext w wr) (fun v _ => 12 - (intOf v).toNat)
  case atStart => exact ⟨0, Nat.zero_le _, rfl, fun z hz => by omega, Ext.refl _⟩
  case round =>
    obtain ⟨k, hk, rfl, ha, hx⟩ := hrel
    have HA := Lib.hid ha
    have HX := Lib.hid hx
    clear ha hx
    by_cases hk12 : k < 12
    · have hsl : Sl (wr.alloc (.cells #[.int .i64 (k : Int)] 3)) .i64 (some ⟨wr.heap.size, 0, none⟩) [(k : Int)] := slc_new wr [.int .i64 (k : Int)] 3
      have HC := Lib.hid (HLO.out _ (HX.out.alloc (.cells #[.int .i64 (k : Int)] 3)) (k : Int) _ 1 hsl)
      have hlz := HLZ.out (k : Int)
      generalize Plain.leftF L ch [(k : Int)] = LF at HC hlz
      have HANK := Lib.hid (HAN.out k hk12)
      have HST : Hid ((Plain.inZone L ch (k : Int) : Int) < need → apartTo L need ch (k + 1)) := fun h z hz => by
        rcases Nat.lt_or_ge z k with q | q
        · exact HA.out z q
        · obtain rfl : z = k := by omega
          exact h
      generalize Plain.inZone L ch (k : Int) = iz at *
      have hw : IntKind.i64.wrap ((n : Int) - (LF.length : Int)) = (iz : Int) := by rw [IntWalk.i64_in _ (by omega)]; omega
      clear hsl hlz HLZ
      have hk12' : decide ((k : Int) < 12) = true := decide_eq_true (by omega)
      by_cases hge : (iz : Int) ≥ need
      · have HR := Lib.hid (HANK.out (by omega))
        go_wp2_with (go_at_call 26; refine HC.out.mono ?_; rintro e w5 ⟨v5, rfl, ho5, hx5⟩; obtain ⟨R5, d5, rfl, l5⟩ := own_lv ho5; have HX5 := Lib.hid ((HX.out.alloc _).trans hx5); clear ho5 hx5 l5)
        go_ret
        exact ⟨by rw [HR.out]; rfl, HX5.out⟩
      · have HR := Lib.hid (HST.out (by omega))
        go_wp2_with (go_at_call 26; refine HC.out.mono ?_; rintro e w5 ⟨v5, rfl, ho5, hx5⟩; obtain ⟨R5, d5, rfl, l5⟩ := own_lv ho5; have HX5 := Lib.hid ((HX.out.alloc _).trans hx5); clear ho5 hx5 l5)
        exact ⟨⟨k + 1, by omega, by go_num, HR.out, HX5.out⟩, by simp [intOf]; omega⟩
    · have hk2 : k = 12 := by omega
      subst hk2
      have HR := Lib.hid (HAA.out HA.out)
      go_wp2
      go_ret
      exact ⟨by rw [HR.out]; rfl, HX.out⟩
end Go.Proofs.Ytbhcaniopdgjkaa
