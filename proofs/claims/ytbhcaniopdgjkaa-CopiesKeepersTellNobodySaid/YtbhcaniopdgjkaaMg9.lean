import Derived.Test.YtbhcaniopdgjkaaMg6
namespace Go.Proofs.Ytbhcaniopdgjkaa
open Go Go.Proofs Go.RowKit
open Plain (SiteD)
set_option maxHeartbeats 1600000
set_option maxRecDepth 100000
structure LeftI (w wr : World) (L : List SiteD) (ch lost : List Int) (k : Nat) (v : Value) : Prop where
  own : wr.ownsRow w.heap.size 3 1 v (Plain.leftF L (ch.take k) lost).length ((Plain.leftF L (ch.take k) lost).map (Value.int .i64))
  x : Ext w wr
theorem leftI0 (w : World) (L : List SiteD) (ch lost : List Int) : LeftI w w L ch lost 0 (.slice none 0 0) := ⟨World.ownsRow_nil _ _ _ _, Ext.refl w⟩
theorem meet_eq (a b : List Int) : Plain.meetB a b = meetsB a b := rfl
theorem LeftI.skip {w wr w1 : World} {L : List SiteD} {ch lost : List Int} {k : Nat} {v : Value} {i : Int} (h : LeftI w wr L ch lost k v) (hi : ch[k]? = some i) (hm : Plain.meetB (Plain.zonesAt L i) lost = true) (x : Ext wr w1) : LeftI w w1 L ch lost (k + 1) v := by
  have e := left_step (L := L) (lost := lost) hi
  rw [if_pos hm, List.append_nil] at e
  refine ⟨?_, h.x.trans x⟩
  rw [e]
  exact own_ext h.own x
theorem LeftI.add {w wr w1 w3 : World} {L : List SiteD} {ch lost : List Int} {k : Nat} {v v3 : Value} {i : Int} {o : Obj} (h : LeftI w wr L ch lost k v) (hi : ch[k]? = some i) (hm : Plain.meetB (Plain.zonesAt L i) lost = false) (x : Ext wr w1)
    (ho : w3.ownsRow w.heap.size 3 1 v3 ((Plain.leftF L (ch.take k) lost).length + 1) ((Plain.leftF L (ch.take k) lost).map (Value.int .i64) ++ [.int .i64 i])) (hg : (w1.alloc o).grownBy w3 v.ownBlock) : LeftI w w3 L ch lost (k + 1) v3 := by
  have e := left_step (L := L) (lost := lost) hi
  rw [if_neg (by rw [hm]; simp)] at e
  have hx1 : Ext wr (w1.alloc o) := x.alloc o
  refine ⟨?_, grow_ext (h.x.trans hx1) (own_ext h.own hx1) hg⟩
  rw [e, List.length_append, List.map_append]
  exact ho
theorem left_c (A C D : Option Addr) (L : List SiteD) (ch lost : List Int) (c1 c2 c3 : Nat) (w : World) (hc : ch.length ≤ 100000) (hd : lost.length ≤ maxLen) (_hL : L.length ≤ 100000) (h1 : Sites w A L) (h2 : Sl w .i64 C ch) (h3 : Sl w .i64 D lost) (hv : ∀ i ∈ ch, 0 ≤ i ∧ i < L.length) :
    Calls Try.prog 48 #[.slice A L.length c1, .slice C ch.length c2, .slice D lost.length c3] w (LRet w (Plain.leftF L ch lost)) := by
  obtain ⟨q, hq⟩ : ∃ q, q = ch.length := ⟨_, rfl⟩
  rw [← hq] at hc ⊢
  have HQ := Lib.hid hq
  have HV := Lib.hid hv
  obtain ⟨N, hN⟩ : ∃ N, N = L.length := ⟨_, rfl⟩
  rw [← hN] at _hL ⊢
  have HN := Lib.hid hN
  have H1 := Lib.hid h1
  have H3 := Lib.hid h3
  have HD := Lib.hid hd
  obtain ⟨i0, hi, hz0, hz1, hz2⟩ := info_parts info3
  have HI := Lib.hid hi
  have HZ0 := Lib.hid hz0
  have HZ1 := Lib.hid hz1
  have HZ2 := Lib.hid hz2
  clear hq hv hN h1 h3 hd hi hz0 hz1 hz2
  go_enter Try.func48, Try.ntmps48
  go_wp2
  go_loopw [7, 12] (fun v i wr => ∃ k : Nat, k ≤ q ∧ i = .int .i64 k ∧ LeftI w wr L ch lost k v) (fun _ i _ => q - (intOf i).toNat)
  case atStart => exact ⟨0, Nat.zero_le _, rfl, leftI0 w L ch lost⟩
  case round =>
    obtain ⟨k, hk, rfl, hr⟩ := hrel
    have HR := Lib.hid hr
    obtain ⟨VA, vc, rfl, hvc, _, _, _⟩ := own_sl hr.own
    clear hr
    by_cases hlt : k < q
    · have hkl : k < ch.length := by rw [← HQ.out]; exact hlt
      obtain ⟨b, o, x, rfl, hx, ha⟩ := h2.at2 hkl
      have hxv := HV.out x (List.mem_of_getElem? hx.out)
      obtain ⟨x0, x1⟩ := hxv
      obtain ⟨X, rfl⟩ : ∃ X : Nat, x = X := ⟨x.toNat, by omega⟩
      have hXL : X < L.length := by omega
      obtain ⟨s, hs⟩ : ∃ s, L[X]? = some s := ⟨_, List.getElem?_eq_getElem hXL⟩
      obtain ⟨b2, o2, rfl, hsite⟩ := H1.out X s hs
      obtain ⟨Z, zc, z1, z2, z3, z4, z5⟩ := hsite.zones
      have ha' := HR.out.x.cell ha
      have z1' := HR.out.x.cell z1
      have HZS : Hid (Plain.zonesAt L (X : Int) = s.zones) := by
        show Plain.zonesAt L (X : Int) = s.zones
        unfold Plain.zonesAt; rw [Int.toNat_natCast, hs]; rfl
      have HME := Lib.hid (meet_c Z D s.zones lost zc c3 wr (by omega) HD.out (z5.ext HR.out.x) (H3.out.ext HR.out.x))
      have hXN : X < N := by rw [HN.out]; exact hXL
      have HST := Lib.hid (left_step (L := L) (lost := lost) hx.out)
      have hkk : (Plain.leftF L (ch.take k) lost).length ≤ k := Nat.le_trans (List.length_filter_le _ _) (by rw [List.length_take]; omega)
      clear hkl hXL hsite z1 ha hs z5 z2 z3 z4
      have hlw := HR.out.x.size
      cases hb : meetsB s.zones lost with
      | true =>
        have HN1 := Lib.hid (fun w1 (x : Ext wr w1) => HR.out.skip hx.out (by rw [HZS.out]; exact hb) x)
        rw [hb] at HME
        clear hb
        go_wp2_with (go_at_call 51; refine HME.out.mono ?_; rintro e w1 ⟨rfl, hx1⟩; have HX1 := Lib.hid hx1; clear hx1)
        refine ⟨⟨k + 1, by omega, by go_num, HN1.out _ HX1.out⟩, by simp [intOf]; omega⟩
      | false =>
        have HMF : Hid (Plain.meetB (Plain.zonesAt L (X : Int)) lost = false) := by show _ = false; rw [HZS.out]; exact hb
        rw [hb] at HME
        clear hb
        go_wp2_with (first | (go_at_call 51; refine HME.out.mono ?_; rintro e w1 ⟨rfl, hx1⟩; have HX1 := Lib.hid hx1; have hs1 := hx1.size; clear hx1) | (at_builtin; refine wpList_append_sl rfl _ _ 23 rfl w.heap.size 3 i0 (.int .i64 0) 1 8 Try.underlying23 HI.out HZ0.out HZ1.out HZ2.out rfl (by decide) _ (Plain.leftF L (ch.take k) lost).length ((Plain.leftF L (ch.take k) lost).map (Value.int .i64)) rfl ((own_ext HR.out.own HX1.out).alloc _) (some ⟨w1.heap.size, 0, none⟩) 1 1 [.int .i64 (X : Int)] rfl (slc_new w1 [.int .i64 (X : Int)] 3) rfl (by simp [Value.oneCell']) (by unfold maxLen; omega) (by omega) (by simp; omega) ?_; intro v3 w3 ho3 hg3 _h3; have HN3 := Lib.hid (HR.out.add hx.out HMF.out HX1.out ho3 hg3); obtain ⟨A3, c3', rfl, _, _, _, _⟩ := own_sl ho3; clear ho3 hg3 _h3))
        refine ⟨⟨k + 1, by omega, by go_num, HN3.out⟩, by simp [intOf]; omega⟩
    · go_wp2
      go_ret
      refine ⟨.slice VA (Plain.leftF L (ch.take k) lost).length vc, rfl, ?_, HR.out.x⟩
      have e : ch.take k = ch := List.take_of_length_le (by rw [← HQ.out]; omega)
      have := HR.out.own
      rw [e] at this ⊢
      exact this
end Go.Proofs.Ytbhcaniopdgjkaa
namespace Go.Proofs.Ytbhcaniopdgjkaa
open Go Go.Proofs Go.RowKit
open Plain (SiteD)
set_option maxHeartbeats 1600000
set_option maxRecDepth 100000
theorem LeftOf_c (A C D : Option Addr) (L : List SiteD) (ch lost : List Int) (c1 c2 c3 : Nat) (w : World) (hc : ch.length ≤ 100000) (hd : lost.length ≤ maxLen) (_hL : L.length ≤ 100000) (h1 : Sites w A L) (h2 : Sl w .i64 C ch) (h3 : Sl w .i64 D lost) (hv : ∀ i ∈ ch, 0 ≤ i ∧ i < L.length) :
    Calls Try.prog 26 #[.slice A L.length c1, .slice C ch.length c2, .slice D lost.length c3] w (LRet w (Plain.leftF L ch lost)) := by
  obtain ⟨q, hq⟩ : ∃ q, q = ch.length := ⟨_, rfl⟩
  rw [← hq] at hc ⊢
  have HQ := Lib.hid hq
  have HV := Lib.hid hv
  obtain ⟨N, hN⟩ : ∃ N, N = L.length := ⟨_, rfl⟩
  rw [← hN] at _hL ⊢
  have HN := Lib.hid hN
  have H1 := Lib.hid h1
  have H3 := Lib.hid h3
  have HD := Lib.hid hd
  obtain ⟨i0, hi, hz0, hz1, hz2⟩ := info_parts info3
  have HI := Lib.hid hi
  have HZ0 := Lib.hid hz0
  have HZ1 := Lib.hid hz1
  have HZ2 := Lib.hid hz2
  clear hq hv hN h1 h3 hd hi hz0 hz1 hz2
  go_enter Try.func26, Try.ntmps26
  go_wp2
  go_loopw [7, 8] (fun v i wr => ∃ k : Nat, k ≤ q ∧ i = .int .i64 k ∧ LeftI w wr L ch lost k v) (fun _ i _ => q - (intOf i).toNat)
  case atStart => exact ⟨0, Nat.zero_le _, rfl, leftI0 w L ch lost⟩
  case round =>
    obtain ⟨k, hk, rfl, hr⟩ := hrel
    have HR := Lib.hid hr
    obtain ⟨VA, vc, rfl, hvc, _, _, _⟩ := own_sl hr.own
    clear hr
    by_cases hlt : k < q
    · have hkl : k < ch.length := by rw [← HQ.out]; exact hlt
      obtain ⟨b, o, x, rfl, hx, ha⟩ := h2.at2 hkl
      have hxv := HV.out x (List.mem_of_getElem? hx.out)
      obtain ⟨x0, x1⟩ := hxv
      obtain ⟨X, rfl⟩ : ∃ X : Nat, x = X := ⟨x.toNat, by omega⟩
      have hXL : X < L.length := by omega
      obtain ⟨s, hs⟩ : ∃ s, L[X]? = some s := ⟨_, List.getElem?_eq_getElem hXL⟩
      obtain ⟨b2, o2, rfl, hsite⟩ := H1.out X s hs
      obtain ⟨Z, zc, z1, z2, z3, z4, z5⟩ := hsite.zones
      have ha' := HR.out.x.cell ha
      have z1' := HR.out.x.cell z1
      have HZS : Hid (Plain.zonesAt L (X : Int) = s.zones) := by
        show Plain.zonesAt L (X : Int) = s.zones
        unfold Plain.zonesAt; rw [Int.toNat_natCast, hs]; rfl
      have HME := Lib.hid (meets_c Z D s.zones lost zc c3 wr (by omega) HD.out (z5.ext HR.out.x) (H3.out.ext HR.out.x))
      have hXN : X < N := by rw [HN.out]; exact hXL
      have HST := Lib.hid (left_step (L := L) (lost := lost) hx.out)
      have hkk : (Plain.leftF L (ch.take k) lost).length ≤ k := Nat.le_trans (List.length_filter_le _ _) (by rw [List.length_take]; omega)
      clear hkl hXL hsite z1 ha hs z5 z2 z3 z4
      have hlw := HR.out.x.size
      cases hb : meetsB s.zones lost with
      | true =>
        have HN1 := Lib.hid (fun w1 (x : Ext wr w1) => HR.out.skip hx.out (by rw [HZS.out]; exact hb) x)
        rw [hb] at HME
        clear hb
        go_wp2_with (go_at_call 58; refine HME.out.mono ?_; rintro e w1 ⟨rfl, rfl⟩)
        refine ⟨⟨k + 1, by omega, by go_num, HN1.out _ (Ext.refl _)⟩, by simp [intOf]; omega⟩
      | false =>
        have HMF : Hid (Plain.meetB (Plain.zonesAt L (X : Int)) lost = false) := by show _ = false; rw [HZS.out]; exact hb
        rw [hb] at HME
        clear hb
        go_wp2_with (first | (go_at_call 58; refine HME.out.mono ?_; rintro e w1 ⟨rfl, rfl⟩) | (at_builtin; refine wpList_append_sl rfl _ _ 23 rfl w.heap.size 3 i0 (.int .i64 0) 1 8 Try.underlying23 HI.out HZ0.out HZ1.out HZ2.out rfl (by decide) _ (Plain.leftF L (ch.take k) lost).length ((Plain.leftF L (ch.take k) lost).map (Value.int .i64)) rfl (HR.out.own.alloc _) (some ⟨wr.heap.size, 0, none⟩) 1 1 [.int .i64 (X : Int)] rfl (slc_new wr [.int .i64 (X : Int)] 3) rfl (by simp [Value.oneCell']) (by unfold maxLen; omega) (by omega) (by simp; omega) ?_; intro v3 w3 ho3 hg3 _h3; have HN3 := Lib.hid (HR.out.add hx.out HMF.out (Ext.refl _) ho3 hg3); obtain ⟨A3, c3', rfl, _, _, _, _⟩ := own_sl ho3; clear ho3 hg3 _h3))
        refine ⟨⟨k + 1, by omega, by go_num, HN3.out⟩, by simp [intOf]; omega⟩
    · go_wp2
      go_ret
      refine ⟨.slice VA (Plain.leftF L (ch.take k) lost).length vc, rfl, ?_, HR.out.x⟩
      have e : ch.take k = ch := List.take_of_length_le (by rw [← HQ.out]; omega)
      have := HR.out.own
      rw [e] at this ⊢
      exact this
end Go.Proofs.Ytbhcaniopdgjkaa
namespace Go.Proofs.Ytbhcaniopdgjkaa
open Go Go.Proofs Go.RowKit
set_option maxHeartbeats 1600000
set_option maxRecDepth 100000
/-- A row that has been filled by going through a list. -/
structure FillI (w wr : World) (l : List Int) (v : Value) : Prop where
  own : wr.ownsRow w.heap.size 3 1 v l.length (l.map (Value.int .i64))
  x : Ext w wr
theorem fill0 (w : World) : FillI w w [] (.slice none 0 0) := ⟨World.ownsRow_nil _ _ _ _, Ext.refl w⟩
theorem FillI.ext {w wr w1 : World} {l : List Int} {v : Value} (h : FillI w wr l v) (x : Ext wr w1) : FillI w w1 l v := ⟨own_ext h.own x, h.x.trans x⟩
theorem FillI.add {w w1 w3 : World} {l : List Int} {v v3 : Value} {i : Int} {o : Obj} (h : FillI w w1 l v)
    (ho : w3.ownsRow w.heap.size 3 1 v3 (l.length + 1) (l.map (Value.int .i64) ++ [.int .i64 i])) (hg : (w1.alloc o).grownBy w3 v.ownBlock) : FillI w w3 (l ++ [i]) v3 := by
  have hx1 : Ext w1 (w1.alloc o) := (Ext.refl w1).alloc o
  refine ⟨?_, grow_ext (h.x.trans hx1) (own_ext h.own hx1) hg⟩
  rw [List.length_append, List.map_append]
  exact ho
theorem merged_step (a b : List Int) (k : Nat) : Plain.mergedF a b (k + 1) = Plain.mergedF a b k ++ (if (hasB a k || hasB b k) = true then [(k : Int)] else []) := by
  unfold Plain.mergedF
  rw [List.range_succ, List.map_append, List.filter_append]
  congr 1
  show List.filter _ [(k : Int)] = _
  rw [List.filter_cons]
  rfl
theorem merged_len (a b : List Int) (k : Nat) : (Plain.mergedF a b k).length ≤ k := by
  unfold Plain.mergedF
  refine Nat.le_trans (List.length_filter_le _ _) ?_
  simp
theorem Merged_c (A B : Option Addr) (a b : List Int) (c d : Nat) (N : Nat) (w : World) (ha : a.length ≤ maxLen) (hb : b.length ≤ maxLen) (hN : N ≤ 100000) (h1 : Sl w .i64 A a) (h2 : Sl w .i64 B b) :
    Calls Try.prog 33 #[.slice A a.length c, .slice B b.length d, .int .i64 (N : Int)] w (LRet w (Plain.mergedF a b N)) := by
  have HA := Lib.hid (fun n W (x : Ext w W) => Has_c A a c n W ha (h1.ext x))
  have HB := Lib.hid (fun n W (x : Ext w W) => Has_c B b d n W hb (h2.ext x))
  obtain ⟨i0, hi, hz0, hz1, hz2⟩ := info_parts info3
  have HI := Lib.hid hi
  have HZ0 := Lib.hid hz0
  have HZ1 := Lib.hid hz1
  have HZ2 := Lib.hid hz2
  clear ha hb h1 h2 hi hz0 hz1 hz2
  obtain ⟨la, hla⟩ : ∃ la, la = a.length := ⟨_, rfl⟩
  obtain ⟨lb, hlb⟩ : ∃ lb, lb = b.length := ⟨_, rfl⟩
  rw [← hla] at HA ⊢
  rw [← hlb] at HB ⊢
  clear hla hlb
  go_enter Try.func33, Try.ntmps33
  go_wp2
  go_loopw [7, 8] (fun v i wr => ∃ k : Nat, k ≤ N ∧ i = .int .i64 k ∧ FillI w wr (Plain.mergedF a b k) v) (fun _ i _ => N - (intOf i).toNat)
  case atStart => exact ⟨0, Nat.zero_le _, rfl, fill0 w⟩
  case round =>
    obtain ⟨k, hk, rfl, hr⟩ := hrel
    have HR := Lib.hid hr
    obtain ⟨VA, vc, rfl, _, _, _, _⟩ := own_sl hr.own
    have hlw := hr.x.size
    clear hr
    have hlen := merged_len a b k
    by_cases hlt : k < N
    · have HS := Lib.hid (merged_step a b k)
      have HAK := Lib.hid (HA.out k wr HR.out.x)
      have HBK := Lib.hid (HB.out k wr HR.out.x)
      obtain ⟨M, hM⟩ : ∃ M, Plain.mergedF a b k = M := ⟨_, rfl⟩
      rw [hM] at HR HS hlen
      rw [hM]
      cases hak : hasB a k with
      | true =>
        rw [hak] at HAK HS
        have HS2 : Hid (Plain.mergedF a b (k + 1) = M ++ [(k : Int)]) := by show _ = _; rw [HS.out]; simp
        clear hak hM
        go_wp2_with (first | (go_at_call 34; refine HAK.out.mono ?_; rintro e w' ⟨rfl, rfl⟩) | (at_builtin; refine wpList_append_sl rfl _ _ 23 rfl w.heap.size 3 i0 (.int .i64 0) 1 8 Try.underlying23 HI.out HZ0.out HZ1.out HZ2.out rfl (by decide) _ M.length (M.map (Value.int .i64)) rfl (HR.out.own.alloc _) (some ⟨wr.heap.size, 0, none⟩) 1 1 [.int .i64 (k : Int)] rfl (slc_new wr [.int .i64 (k : Int)] 3) rfl (by simp [Value.oneCell']) (by unfold maxLen; omega) (by omega) (by simp; omega) ?_; intro v3 w3 ho3 hg3 _h3; have HN3 := Lib.hid (HR.out.add ho3 hg3); obtain ⟨A3, c3', rfl, _, _, _, _⟩ := own_sl ho3; clear ho3 hg3 _h3))
        refine ⟨⟨k + 1, by omega, by go_num, by rw [HS2.out]; exact HN3.out⟩, by simp [intOf]; omega⟩
      | false =>
        cases hbk : hasB b k with
        | true =>
          rw [hak] at HAK HS
          rw [hbk] at HBK HS
          have HS2 : Hid (Plain.mergedF a b (k + 1) = M ++ [(k : Int)]) := by show _ = _; rw [HS.out]; simp
          clear hak hM hbk
          go_wp2_with (first | (go_at_call 34; (first | ((with_reducible refine HAK.out.mono ?_); rintro e w' ⟨rfl, rfl⟩) | ((with_reducible refine HBK.out.mono ?_); rintro e w' ⟨rfl, rfl⟩))) | (at_builtin; refine wpList_append_sl rfl _ _ 23 rfl w.heap.size 3 i0 (.int .i64 0) 1 8 Try.underlying23 HI.out HZ0.out HZ1.out HZ2.out rfl (by decide) _ M.length (M.map (Value.int .i64)) rfl (HR.out.own.alloc _) (some ⟨wr.heap.size, 0, none⟩) 1 1 [.int .i64 (k : Int)] rfl (slc_new wr [.int .i64 (k : Int)] 3) rfl (by simp [Value.oneCell']) (by unfold maxLen; omega) (by omega) (by simp; omega) ?_; intro v3 w3 ho3 hg3 _h3; have HN3 := Lib.hid (HR.out.add ho3 hg3); obtain ⟨A3, c3', rfl, _, _, _, _⟩ := own_sl ho3; clear ho3 hg3 _h3))
          refine ⟨⟨k + 1, by omega, by go_num, by rw [HS2.out]; exact HN3.out⟩, by simp [intOf]; omega⟩
        | false =>
          rw [hak] at HAK HS
          rw [hbk] at HBK HS
          have HS2 : Hid (Plain.mergedF a b (k + 1) = M) := by show _ = _; rw [HS.out]; simp
          clear hak hM hbk
          go_wp2_with (go_at_call 34; (first | ((with_reducible refine HAK.out.mono ?_); rintro e w' ⟨rfl, rfl⟩) | ((with_reducible refine HBK.out.mono ?_); rintro e w' ⟨rfl, rfl⟩)))
          refine ⟨⟨k + 1, by omega, by go_num, by rw [HS2.out]; exact HR.out⟩, by simp [intOf]; omega⟩
    · obtain rfl : k = N := by omega
      go_wp2
      go_ret
      exact ⟨_, rfl, HR.out.own, HR.out.x⟩
end Go.Proofs.Ytbhcaniopdgjkaa
