import Derived.Test.YtbhcaniopdgjkaaSortO
namespace Go.Proofs.Ytbhcaniopdgjkaa
open Go Go.Proofs Go.RowKit
open Plain (SiteD)
set_option maxHeartbeats 3200000
set_option maxRecDepth 100000
theorem FillI.addL {w w1 w3 : World} {l m : List Int} {v v3 : Value} {o : Obj} (h : FillI w w1 l v)
    (ho : w3.ownsRow w.heap.size 3 1 v3 (l.length + m.length) (l.map (Value.int .i64) ++ m.map (Value.int .i64))) (hg : (w1.alloc o).grownBy w3 v.ownBlock) : FillI w w3 (l ++ m) v3 := by
  have hx1 : Ext w1 (w1.alloc o) := (Ext.refl w1).alloc o
  refine ⟨?_, grow_ext (h.x.trans hx1) (own_ext h.own hx1) hg⟩
  rw [List.length_append, List.map_append]
  exact ho
def flatTo (L : List SiteD) (k : Nat) : List Int := (L.take k).flatMap SiteD.zones
theorem flat_next {L : List SiteD} {k : Nat} {s : SiteD} (h : L[k]? = some s) : flatTo L (k + 1) = flatTo L k ++ s.zones := by
  unfold flatTo; rw [take_snocS h, List.flatMap_append]; simp
theorem flat_len (L : List SiteD) (hz : ∀ s ∈ L, s.zones.length ≤ 12) : ∀ k, (flatTo L k).length ≤ k * 12
  | 0 => by simp [flatTo]
  | k + 1 => by
    have ih := flat_len L hz k
    cases hk : L[k]? with
    | none =>
      have : flatTo L (k + 1) = flatTo L k := by
        have h1 := List.getElem?_eq_none_iff.1 hk
        unfold flatTo
        rw [List.take_of_length_le h1, List.take_of_length_le (by omega)]
      rw [this]; omega
    | some s =>
      rw [flat_next hk, List.length_append]
      have := hz s (List.mem_of_getElem? hk)
      omega
theorem Ext.belowTrans {w w1 w2 : World} (h : Ext w w1) (k : Below w.heap.size w1 w2) : Ext w w2 := Below.trans h k
theorem zones_eq {L : List SiteD} (hv : Plain.sitesF L = (0, 0)) : Lib.compact (sortI (flatTo L L.length)) = Plain.zonesF L := by
  obtain ⟨h1, h2⟩ := compact_law _ (sortI_sorted (flatTo L L.length))
  have h3 : flatTo L L.length = L.flatMap SiteD.zones := by unfold flatTo; rw [List.take_length]
  refine Plain.sorted_eqI h1 (Plain.zones_sorted L) fun z => ?_
  rw [h2, sortI_mem, h3, Plain.mem_zones, List.mem_flatMap]
  constructor
  · rintro ⟨s, hs, hz⟩; exact ⟨(Plain.risingC_iff.1 (Plain.sites_zones hv s hs)).2 z hz, s, hs, hz⟩
  · rintro ⟨_, s, hs, hz⟩; exact ⟨s, hs, hz⟩
theorem zones_c (A : Option Addr) (L : List SiteD) (c1 : Nat) (w : World) (h1 : Sites w A L) (hv : Plain.sitesF L = (0, 0)) :
    Calls Try.prog 49 #[.slice A L.length c1] w (LRet w (Plain.zonesF L)) := by
  have HE := Lib.hid (zones_eq hv)
  have hL := sitesF_len hv
  have hz : ∀ s ∈ L, s.zones.length ≤ 12 := fun s hs => rising_len (n := 12) (Plain.sites_zones hv s hs)
  have HFL := Lib.hid (flat_len L hz)
  have HZL := Lib.hid hz
  obtain ⟨q, hq⟩ : ∃ q, q = L.length := ⟨_, rfl⟩
  rw [← hq] at hL HE ⊢
  have HQ := Lib.hid hq
  have H1 := Lib.hid h1
  obtain ⟨i0, hi, hz0, hz1, hz2⟩ := info_parts info3
  have HI := Lib.hid hi
  have HZ0 := Lib.hid hz0
  have HZ1 := Lib.hid hz1
  have HZ2 := Lib.hid hz2
  clear hv hz hq h1 hi hz0 hz1 hz2
  go_enter Try.func49, Try.ntmps49
  go_wp2
  go_loopw [3, 8] (fun v i wr => ∃ k : Nat, k ≤ q ∧ i = .int .i64 k ∧ FillI w wr (flatTo L k) v) (fun _ i _ => q - (intOf i).toNat)
  case atStart => exact ⟨0, Nat.zero_le _, rfl, fill0 w⟩
  case round =>
    obtain ⟨k, hk, rfl, hr⟩ := hrel
    have HR := Lib.hid hr
    obtain ⟨VA, vc, rfl, _, _, _, _⟩ := own_sl hr.own
    have hlw := hr.x.size
    clear hr
    have hlen := HFL.out k
    obtain ⟨M, hM⟩ : ∃ M, flatTo L k = M := ⟨_, rfl⟩
    rw [hM] at HR hlen
    rw [hM]
    have HMM := Lib.hid hM
    clear hM
    by_cases hlt : k < q
    · have hkl : k < L.length := by rw [← HQ.out]; exact hlt
      obtain ⟨s, hs⟩ : ∃ s, L[k]? = some s := ⟨_, List.getElem?_eq_getElem hkl⟩
      obtain ⟨b, o, rfl, hsite⟩ := H1.out k s hs
      have hzl := HZL.out s (List.mem_of_getElem? hs)
      have HN := Lib.hid ((flat_next hs).trans (by rw [HMM.out]) : flatTo L (k + 1) = M ++ s.zones)
      have hsite := hsite.ext HR.out.x
      obtain ⟨nm, n1, n2, n3⟩ := hsite.name
      obtain ⟨Z, zc, k1, _, _, _, k3⟩ := hsite.zones
      have k4 := hsite.cost
      have k5 := hsite.wear
      have HK3 := Lib.hid k3
      clear hsite hs hkl n2 n3 k3
      have HXA := Lib.hid ((Ext.refl wr).alloc (.cells #[.string nm, .slice Z s.zones.length zc, .int .i64 s.cost, .int .i64 s.wear] 52))
      go_wp2_with (at_builtin; refine wpList_append_sl rfl _ _ 23 rfl w.heap.size 3 i0 (.int .i64 0) 1 8 Try.underlying23 HI.out HZ0.out HZ1.out HZ2.out rfl (by decide) _ M.length (M.map (Value.int .i64)) rfl (HR.out.own.alloc _) Z s.zones.length zc (s.zones.map (Value.int .i64)) rfl (HK3.out.ext HXA.out) (by simp) ints_one (by unfold maxLen; omega) (by omega) (by simp; omega) ?_; intro v3 w3 ho3 hg3 _h3; have HN3 := Lib.hid (HR.out.addL ho3 hg3); obtain ⟨A3, c3', rfl, _, _, _, _⟩ := own_sl ho3; clear ho3 hg3 _h3)
      refine ⟨⟨k + 1, by omega, by go_num, ?_⟩, by simp [intOf]; omega⟩
      rw [HN.out]; simpa using HN3.out
    · have hkq : k = q := by omega
      subst hkq
      rw [HMM.out] at HE
      have HSO := Lib.hid (sort_own wr w.heap.size _ M HR.out.own (by omega) hlw)
      have HCO := Lib.hid (fun w1 (o1 : w1.ownsRow w.heap.size 3 1 (.slice VA M.length vc) M.length ((sortI M).map (Value.int .i64))) => compact_own w1 w.heap.size (.slice VA M.length vc) (sortI M) (by rw [sortI_len]; exact o1) (by rw [sortI_len]; omega))
      go_wp2_with (first | (go_at_call 52; refine HSO.out.mono ?_; rintro e w1 ⟨rfl, ho1, hb1⟩; have HO1 := Lib.hid ho1; have HX1 := Lib.hid (HR.out.x.belowTrans hb1); clear ho1 hb1) | (go_at_call 82; refine (HCO.out _ HO1.out).mono ?_; rintro e w2 ⟨v2, rfl, ho2, hb2⟩; have HO2 := Lib.hid ho2; have HX2 := Lib.hid (HX1.out.belowTrans hb2); obtain ⟨A2, c2, rfl, _, _, _, _⟩ := own_sl ho2; clear ho2 hb2))
      go_ret
      refine ⟨_, rfl, ?_, HX2.out⟩
      rw [← HE.out]
      exact HO2.out
end Go.Proofs.Ytbhcaniopdgjkaa
