import Derived.Test.YtbhcaniopdgjkaaLeftP
namespace Go.Proofs.Ytbhcaniopdgjkaa
open Go Go.Proofs Go.RowKit
open Plain (SiteD)
set_option maxHeartbeats 1600000
set_option maxRecDepth 100000
theorem LeftOf_c (A C D : Option Addr) (L : List SiteD) (ch lost : List Int) (c1 c2 c3 : Nat) (w : World) (hc : ch.length ≤ 100000) (hd : lost.length ≤ maxLen) (_hL : L.length ≤ 100000) (h1 : Sites w A L) (h2 : Sl w .i64 C ch) (h3 : Sl w .i64 D lost) (hv : ∀ i ∈ ch, 0 ≤ i ∧ i < L.length) :
    Calls Try.prog 26 #[.slice A L.length c1, .slice C ch.length c2, .slice D lost.length c3] w (LRet w (Plain.leftF L ch lost)) := by
  obtain ⟨q, hq⟩ : ∃ q, q = ch.length := ⟨_, rfl⟩
  rw [← hq] at hc ⊢
  have HQ := Lib.hid hq
  have HV := Lib.hid hv
  obtain ⟨N, hN⟩ : ∃ N, N = L.length := ⟨_, rfl⟩
  rw [← hN] at _hL ⊢
  have HN := Lib.hid hN
  have H1 := Lib.hid h1
  have H3 := Lib.hid h3
  have HD := Lib.hid hd
  obtain ⟨i0, hi, hz0, hz1, hz2⟩ := info_parts info3
  have HI := Lib.hid hi
  have HZ0 := Lib.hid hz0
  have HZ1 := Lib.hid hz1
  have HZ2 := Lib.hid hz2
  clear hq hv hN h1 h3 hd hi hz0 hz1 hz2
  go_enter Try.func26, Try.ntmps26
  go_wp2
  go_loopw [7, 8] (fun v i wr => ∃ k : Nat, k ≤ q ∧ i = .int .i64 k ∧ LeftI w wr L ch lost k v) (fun _ i _ => q - (intOf i).toNat)
  case atStart => exact ⟨0, Nat.zero_le _, rfl, leftI0 w L ch lost⟩
  case round =>
    obtain ⟨k, hk, rfl, hr⟩ := hrel
    have HR := Lib.hid hr
    obtain ⟨VA, vc, rfl, hvc, _, _, _⟩ := own_sl hr.own
    clear hr
    by_cases hlt : k < q
    · have hkl : k < ch.length := by rw [← HQ.out]; exact hlt
      obtain ⟨b, o, x, rfl, hx, ha⟩ := h2.at2 hkl
      have hxv := HV.out x (List.mem_of_getElem? hx.out)
      obtain ⟨x0, x1⟩ := hxv
      obtain ⟨X, rfl⟩ : ∃ X : Nat, x = X := ⟨x.toNat, by omega⟩
      have hXL : X < L.length := by omega
      obtain ⟨s, hs⟩ : ∃ s, L[X]? = some s := ⟨_, List.getElem?_eq_getElem hXL⟩
      obtain ⟨b2, o2, rfl, hsite⟩ := H1.out X s hs
      obtain ⟨Z, zc, z1, z2, z3, z4, z5⟩ := hsite.zones
      have ha' := HR.out.x.cell ha
      have z1' := HR.out.x.cell z1
      have HZS : Hid (Plain.zonesAt L (X : Int) = s.zones) := by
        show Plain.zonesAt L (X : Int) = s.zones
        unfold Plain.zonesAt; rw [Int.toNat_natCast, hs]; rfl
      have HME := Lib.hid (meets_c Z D s.zones lost zc c3 wr (by omega) HD.out (z5.ext HR.out.x) (H3.out.ext HR.out.x))
      have hXN : X < N := by rw [HN.out]; exact hXL
      have HST := Lib.hid (left_step (L := L) (lost := lost) hx.out)
      have hkk : (Plain.leftF L (ch.take k) lost).length ≤ k := Nat.le_trans (List.length_filter_le _ _) (by rw [List.length_take]; omega)
      clear hkl hXL hsite z1 ha hs z5 z2 z3 z4
      have hlw := HR.out.x.size
      cases hb : meetsB s.zones lost with
      | true =>
        have HN1 := Lib.hid (fun w1 (x : Ext wr w1) => HR.out.skip hx.out (by rw [HZS.out]; exact hb) x)
        rw [hb] at HME
        clear hb
        go_wp2_with (go_at_call 58; refine HME.out.mono ?_; rintro e w1 ⟨rfl, rfl⟩)
        refine ⟨⟨k + 1, by omega, by go_num, HN1.out _ (Ext.refl _)⟩, by simp [intOf]; omega⟩
      | false =>
        have HMF : Hid (Plain.meetB (Plain.zonesAt L (X : Int)) lost = false) := by show _ = false; rw [HZS.out]; exact hb
        rw [hb] at HME
        clear hb
        go_wp2_with (first | (go_at_call 58; refine HME.out.mono ?_; rintro e w1 ⟨rfl, rfl⟩) | (at_builtin; refine wpList_append_sl rfl _ _ 23 rfl w.heap.size 3 i0 (.int .i64 0) 1 8 Try.underlying23 HI.out HZ0.out HZ1.out HZ2.out rfl (by decide) _ (Plain.leftF L (ch.take k) lost).length ((Plain.leftF L (ch.take k) lost).map (Value.int .i64)) rfl (HR.out.own.alloc _) (some ⟨wr.heap.size, 0, none⟩) 1 1 [.int .i64 (X : Int)] rfl (slc_new wr [.int .i64 (X : Int)] 3) rfl (by simp [Value.oneCell']) (by unfold maxLen; omega) (by omega) (by simp; omega) ?_; intro v3 w3 ho3 hg3 _h3; have HN3 := Lib.hid (HR.out.add hx.out HMF.out (Ext.refl _) ho3 hg3); obtain ⟨A3, c3', rfl, _, _, _, _⟩ := own_sl ho3; clear ho3 hg3 _h3))
        refine ⟨⟨k + 1, by omega, by go_num, HN3.out⟩, by simp [intOf]; omega⟩
    · go_wp2
      go_ret
      refine ⟨.slice VA (Plain.leftF L (ch.take k) lost).length vc, rfl, ?_, HR.out.x⟩
      have e : ch.take k = ch := List.take_of_length_le (by rw [← HQ.out]; omega)
      have := HR.out.own
      rw [e] at this ⊢
      exact this
end Go.Proofs.Ytbhcaniopdgjkaa
