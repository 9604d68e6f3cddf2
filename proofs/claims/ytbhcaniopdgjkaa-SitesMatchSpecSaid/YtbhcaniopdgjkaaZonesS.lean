import Derived.Test.YtbhcaniopdgjkaaZonesP
namespace Go.Proofs.Ytbhcaniopdgjkaa
open Go Go.Proofs Go.RowKit
open Plain (SiteD)
set_option maxHeartbeats 3200000
set_option maxRecDepth 100000
/-- The zones below k. -/
def zonesTo (L : List SiteD) (k : Nat) : List Int := ((List.range k).map Int.ofNat).filter fun z => L.any fun s => s.zones.contains z
theorem zonesTo_next (L : List SiteD) (k : Nat) : zonesTo L (k + 1) = zonesTo L k ++ (if (L.any fun s => s.zones.contains (k : Int)) = true then [(k : Int)] else []) := by
  unfold zonesTo
  rw [List.range_succ, List.map_append, List.filter_append]
  congr 1
  show List.filter _ [(k : Int)] = _
  rw [List.filter_cons]
  rfl
theorem zonesTo_len (L : List SiteD) (k : Nat) : (zonesTo L k).length ≤ k := by
  unfold zonesTo
  refine Nat.le_trans (List.length_filter_le _ _) ?_
  simp
theorem ZonesOf_c (A : Option Addr) (L : List SiteD) (c1 : Nat) (w : World) (hL : L.length ≤ 100000) (h1 : Sites w A L) :
    Calls Try.prog 25 #[.slice A L.length c1] w (LRet w (Plain.zonesF L)) := by
  obtain ⟨q, hq⟩ : ∃ q, q = L.length := ⟨_, rfl⟩
  rw [← hq] at hL ⊢
  have HQ := Lib.hid hq
  have H1 := Lib.hid h1
  obtain ⟨i0, hi, hz0, hz1, hz2⟩ := info_parts info3
  have HI := Lib.hid hi
  have HZ0 := Lib.hid hz0
  have HZ1 := Lib.hid hz1
  have HZ2 := Lib.hid hz2
  clear hq h1 hi hz0 hz1 hz2
  go_enter Try.func25, Try.ntmps25
  go_wp2
  go_loopw [3, 4] (fun v i wr => ∃ k : Nat, k ≤ 12 ∧ i = .int .i64 k ∧ FillI w wr (zonesTo L k) v) (fun _ i _ => 12 - (intOf i).toNat)
  case atStart => exact ⟨0, Nat.zero_le _, rfl, fill0 w⟩
  case round =>
    obtain ⟨k, hk, rfl, hr⟩ := hrel
    have HR := Lib.hid hr
    clear hr
    have hlen := zonesTo_len L k
    by_cases hlt : k < 12
    · have HNX := Lib.hid (zonesTo_next L k)
      obtain ⟨p, hp⟩ : ∃ p : SiteD → Bool, p = fun s => s.zones.contains (k : Int) := ⟨_, rfl⟩
      rw [← hp] at HNX
      have HP := Lib.hid hp
      clear hp
      obtain ⟨M, hM⟩ : ∃ M, zonesTo L k = M := ⟨_, rfl⟩
      rw [hM] at HR hlen HNX
      clear hM
      go_wp2
      rw [show decide ((k : Int) < 12) = true from decide_eq_true (by omega)]
      go_loopw [3, 5] (fun v i wx => ∃ j : Nat, j ≤ q ∧ i = .int .i64 j ∧ noneS p L j ∧ FillI w wx M v) (fun _ i _ => q - (intOf i).toNat)
      case atStart => exact ⟨0, Nat.zero_le _, rfl, by simp [noneS], HR.out⟩
      case round =>
        clear HR
        obtain ⟨j, hj, rfl, hno, hr⟩ := hrel
        have HR := Lib.hid hr
        have HNO := Lib.hid hno
        obtain ⟨VA, vc, rfl, _, _, _, _⟩ := own_sl hr.own
        have hlw := hr.x.size
        clear hr hno
        by_cases hjl : j < q
        · have hkl : j < L.length := by rw [← HQ.out]; exact hjl
          obtain ⟨s, hs⟩ : ∃ s, L[j]? = some s := ⟨_, List.getElem?_eq_getElem hkl⟩
          obtain ⟨b, o, rfl, hsite⟩ := H1.out j s hs
          have hsite := hsite.ext HR.out.x
          obtain ⟨Z, zc, k1, _, k2, _, k3⟩ := hsite.zones
          have HS := Lib.hid hs
          have HHA := Lib.hid (Has_c Z s.zones zc (k : Int) wr (by omega) k3)
          have HPS : Hid (hasB s.zones k = p s) := by show _ = _; rw [HP.out]; rfl
          rw [HPS.out] at HHA
          clear hs hsite hkl k2 k3
          cases hps : p s with
          | true =>
            rw [hps] at HHA
            have HE : Hid (zonesTo L (k + 1) = M ++ [(k : Int)]) := by show _ = _; rw [HNX.out, if_pos (anyS_here HS.out hps)]
            clear hps
            go_wp2_with (first | (go_at_call 34; refine HHA.out.mono ?_; rintro e w' ⟨rfl, rfl⟩) | (at_builtin; refine wpList_append_sl rfl _ _ 23 rfl w.heap.size 3 i0 (.int .i64 0) 1 8 Try.underlying23 HI.out HZ0.out HZ1.out HZ2.out rfl (by decide) _ M.length (M.map (Value.int .i64)) rfl (HR.out.own.alloc _) (some ⟨wr.heap.size, 0, none⟩) 1 1 [.int .i64 (k : Int)] rfl (slc_new wr [.int .i64 (k : Int)] 3) rfl (by simp [Value.oneCell']) (by unfold maxLen; omega) (by omega) (by simp; omega) ?_; intro v3 w3 ho3 hg3 _h3; have HN3 := Lib.hid (HR.out.add ho3 hg3); obtain ⟨A3, c3', rfl, _, _, _, _⟩ := own_sl ho3; clear ho3 hg3 _h3))
            refine ⟨⟨k + 1, by omega, by go_num, by rw [HE.out]; exact HN3.out⟩, by simp [intOf]; omega⟩
          | false =>
            rw [hps] at HHA
            have HY := Lib.hid (anyS_next HNO.out HS.out hps)
            clear hps
            go_wp2_with (go_at_call 34; refine HHA.out.mono ?_; rintro e w' ⟨rfl, rfl⟩)
            go_round
            case rel => exact ⟨j + 1, by omega, by go_num, HY.out, HR.out⟩
            case measure => simp [intOf]; omega
        · have HE : Hid (zonesTo L (k + 1) = M) := by show _ = _; rw [HNX.out, if_neg (by rw [anyS_full HNO.out (by rw [← HQ.out]; omega)]; simp), List.append_nil]
          go_wp2
          refine ⟨⟨k + 1, by omega, by go_num, by rw [HE.out]; exact HR.out⟩, by simp [intOf]; omega⟩
    · obtain rfl : k = 12 := by omega
      obtain ⟨VA, vc, rfl, _, _, _, _⟩ := own_sl HR.out.own
      go_wp2
      go_ret
      exact ⟨_, rfl, HR.out.own, HR.out.x⟩
theorem Zones_c (A : Option Addr) (L : List SiteD) (c1 : Nat) (w : World) (hL : L.length ≤ c1) (h1 : Sites w A L) (hg : Glob w) :
    Calls Try.prog 15 #[.slice A L.length c1] w (LFRet w (if Plain.sitesF L = (0, 0) then Plain.zonesF L else []) (Plain.sitesF L)) := by
  have HX0 := Lib.hid ((Ext.refl w).alloc (.cells #[.int .i64 0, .int .i64 0] 25))
  have HV := Lib.hid (Validate_c A L c1 (w.alloc (.cells #[.int .i64 0, .int .i64 0] 25)) hL (h1.ext HX0.out) (hg.ext HX0.out))
  have HZ := Lib.hid (fun w1 (x : Ext w w1) => zones_c A L c1 w1 (h1.ext x))
  obtain ⟨⟨f1, f2⟩, hf⟩ : ∃ f, Plain.sitesF L = f := ⟨_, rfl⟩
  rw [hf] at HV HZ ⊢
  have HF := Lib.hid hf
  clear hf h1 hg
  by_cases g1 : f1 = 0
  · have h2' : f2 = 0 := by
      have := sitesF_code L (by rw [HF.out]; exact g1)
      rw [HF.out] at this
      injection this
    subst g1
    subst h2'
    rw [if_pos rfl]
    go_enter Try.func15, Try.ntmps15
    go_wp2_with (first | (go_at_call 22; refine HV.out.mono ?_; rintro e w1 ⟨rfl, hx⟩; have hb := (FBlk.new w 0 0).ext hx; have z0 := hb.c0; have z1 := hb.c1; have y0 := hb.z 0; have y1 := hb.z 1; have HX := Lib.hid (ext_new hx); have HB := Lib.hid hb; have hlt := new_lt hx; clear hb hx) | (go_at_call 49; refine (HZ.out _ (HX.out.alloc _) (by trivial)).mono ?_; rintro e w3 ⟨v3, rfl, ho3, hx3⟩; have hb3 := (HB.out.alloc _).ext hx3; have p0 := hb3.c0; have p1 := hb3.c1; have q0 := hb3.z 0; have q1 := hb3.z 1; have HB3 := Lib.hid hb3; have HO3 := Lib.hid ho3; have hbs : w.heap.size < (w1.alloc (.cells #[.int .i64 0, .int .i64 0] 25)).heap.size := alloc_lt hlt _; have HX3 := Lib.hid ((HX.out.alloc _).trans hx3); obtain ⟨A3, d3, rfl, _, _, _, _⟩ := own_sl ho3; clear ho3 hb3 hx3))
    refine bodyPost_ret (v := .tuple #[_, .agg #[.int .i64 0, .int .i64 0]]) (lf_res Try.results15 _ _ w.heap.size (_, _) _ rfl rfl ?_) rfl ⟨_, rfl, ?_, ?_⟩
    · exact HB3.out.set _ _
    · exact own_mono (own_set (own_set HO3.out hbs 0 _) hbs 1 _) (Nat.le_of_lt hbs)
    · exact HX3.out.set2 _ _
  · rw [if_neg (by intro h; apply g1; injection h)]
    go_enter Try.func15, Try.ntmps15
    go_wp2_with (first | (go_at_call 22; refine HV.out.mono ?_; rintro e w1 ⟨rfl, hx⟩; have hb := (FBlk.new w 0 0).ext hx; have z0 := hb.c0; have z1 := hb.c1; have y0 := hb.z 0; have y1 := hb.z 1; have HX := Lib.hid (ext_new hx); have HB := Lib.hid hb; have hlt := new_lt hx; clear hb hx))
    go_region
    all_goals go_wp2
    all_goals refine bodyPost_ret (v := .tuple #[.slice none 0 0, .agg #[.int .i64 f1, .int .i64 f2]]) (lf_res Try.results15 _ _ w.heap.size (_, _) _ rfl rfl ?_) rfl ⟨_, rfl, nil_owns _ _ _, ?_⟩
    all_goals first | exact ((HB.out.set _ _).alloc _).drew | exact ((HX.out.set2 _ _).alloc _).drew
end Go.Proofs.Ytbhcaniopdgjkaa
