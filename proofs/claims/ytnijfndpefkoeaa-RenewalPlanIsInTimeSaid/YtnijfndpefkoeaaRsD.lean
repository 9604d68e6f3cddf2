import Derived.Test.YtnijfndpefkoeaaRsC
namespace Go.Proofs.Ytnijfndpefkoeaa
open Go Go.Proofs Go.RowKit
set_option maxHeartbeats 12800000
set_option maxRecDepth 100000
theorem gr_next0 {ks : List (Int × Int)} (ok : Ren.KOk ks) {best : Ren.Choice} {a : Nat} {out : List Int} (h : Ren.GrIs ks best a 0 out) : Ren.GrIs ks best (a + 1) 0 out :=
  ⟨⟨([], 0), Ren.best_zero ok (by omega) (Int.le_refl _), by rw [Ren.gr_done ok h]; simp⟩⟩
theorem gr_start {ks : List (Int × Int)} (ok : Ren.KOk ks) {N : Nat} (hne : 0 < N → ks ≠ []) : Ren.GrIs ks (Ren.bestAt ks N) 0 N [] := by
  rcases Nat.eq_zero_or_pos N with h | h
  · subst h
    exact ⟨⟨([], 0), Ren.best_zero ok (by omega) (Int.le_refl _), rfl⟩⟩
  · exact Ren.gr_zero ok (hne h) N
theorem Prs.drop {W : World} {b o : Nat} {L : List (Int × Int)} (h : Prs W (some ⟨b, o, none⟩) L) (a : Nat) : Prs W (some ⟨b, o + a * 2, none⟩) (L.drop a) := by
  have e : prsV (L.drop a) = (prsV L).drop (a * 2) := by
    have h1 : ∀ (l : List (Int × Int)) (k : Nat), prsV (l.drop k) = (prsV l).drop (k * 2) := by
      intro l k
      induction k generalizing l with
      | zero => simp
      | succ k ih =>
        cases l with
        | nil => simp [prsV]
        | cons p l =>
          rw [List.drop_succ_cons, ih l, prsV_cons, show (k + 1) * 2 = (k * 2 + 1) + 1 by omega]
          rfl
    exact h1 L a
  intro i u hu
  rw [e, List.getElem?_drop] at hu
  obtain ⟨ad, ha, hc⟩ := h _ _ hu
  injection ha with ha
  subst ha
  rw [add_off] at hc
  exact ⟨_, rfl, by rw [add_off, Nat.add_assoc]; exact hc⟩
theorem kbd_drop {ks : List (Int × Int)} (h : Ren.KBd ks) (a : Nat) : Ren.KBd (ks.drop a) :=
  ⟨fun i p q => h.life (a + i) p (by rw [List.getElem?_drop] at q; exact q), fun i p q => h.cost (a + i) p (by rw [List.getElem?_drop] at q; exact q)⟩
theorem two_of {wr w2 : World} {B : Nat} {t u : Value} {K M : List Int} (h : KOwn wr B t K) (x : Ext wr w2) (k : KOwn w2 wr.heap.size u M) (hB : B ≤ wr.heap.size) : TwoOwn w2 B t u K M :=
  ⟨h.ext x, town_base k hB, fun g q r => by have := (own_lt h q).2; have := (own_lt k r).1; omega⟩
/-- What CheapestKinds returns. -/
def KindsRet (w : World) (ks : List (Int × Int)) (N : Nat) (e : Ending) (w' : World) : Prop :=
  ∃ A c, e = .returned (.tuple #[.slice A (Ren.bestAt ks N).1.length c, .int .i64 (Ren.bestAt ks N).2]) ∧ Sl w' .i64 A (Ren.bestAt ks N).1 ∧ (Ren.bestAt ks N).1.length ≤ maxLen ∧ Ext w w'
theorem Kinds_c (A : Option Addr) (L : List (Int × Int)) (c : Nat) (N : Nat) (w : World) (hl : L.length ≤ 8) (hlc : L.length ≤ c) (hcm : c ≤ maxLen) (h1 : Prs w A L) (hok : ∀ p ∈ L, okK p = true) (hN : N ≤ 1000) (hne : 0 < N → L ≠ []) :
    Calls Try.prog 23 #[.slice A L.length c, .int .i64 (N : Int)] w (KindsRet w L N) := by
  have HKO : Hid (Ren.KOk L) := Lib.hid (kok_ok hok)
  have HKB := Lib.hid (kbd_ok hok)
  have HL1 := Lib.hid (Least_c A L c N w hl h1 hok hN hne)
  have HLD := Lib.hid (fun (b o a c' : Nat) (W : World) (e : A = some ⟨b, o, none⟩) (x : Ext w W) (ha : a < L.length) => Least_c (some ⟨b, o + a * 2, none⟩) (L.drop a) c' N W (by rw [List.length_drop]; omega) (Prs.drop (by rw [← e]; exact h1.ext x) a) (fun p hp => hok p (List.mem_of_mem_drop hp)) hN (fun _ q => by have := congrArg List.length q; rw [List.length_drop] at this; simp at this; omega))
  have HGS := Lib.hid (gr_start HKO.out hne)
  have H1 := Lib.hid h1
  obtain ⟨n, hn⟩ : ∃ n, n = L.length := ⟨_, rfl⟩
  have HN := Lib.hid hn
  simp only [List.length_drop] at HLD
  rw [← hn] at hl hlc HL1 HLD ⊢
  unfold maxLen at hcm
  clear h1 hok hne hn
  go_enter Try.func23, Try.ntmps23
  go_upto_region 2 with (go_at_call 33; refine HL1.out.mono ?_; rintro e w2 ⟨g6, c6, g7, d7, rfl, ht6, hx2⟩; have HT6 := Lib.hid ht6.a; have HX2 := Lib.hid hx2; clear ht6 hx2)
  have HO6 := Lib.hid (two_of (w2 := w2) (B := w.heap.size) (t := .slice none 0 0) (K := []) ⟨rfl, .inl ⟨rfl, rfl⟩⟩ HX2.out HT6.out (Nat.le_refl _))
  clear HL1 HT6
  go_upto_region 5 with (fail)
  go_loopw [8, 9, 10] (fun t8 t9 t10 wx => ∃ (a lf : Nat) (out : List Int), t10 = .int .i64 (a : Int) ∧ t9 = .int .i64 (lf : Int) ∧ a ≤ n ∧ lf ≤ N ∧ TwoOwn wx w.heap.size t8 (.slice (some ⟨g6, 0, none⟩) (N + 1) c6) out (costL L N) ∧ Hid (Ren.GrIs L (Ren.bestAt L N) a lf out) ∧ out.length + lf ≤ N ∧ Ext w wx) (fun _ _ t10 _ => n - (intOf t10).toNat)
  case atStart => exact ⟨0, N, [], rfl, rfl, Nat.zero_le _, Nat.le_refl _, HO6.out, HGS, by simp, HX2.out⟩
  case round =>
    obtain ⟨a, lf, out, rfl, rfl, han, hlf, hto, hgr, hol, hx⟩ := hrel
    have HTO := Lib.hid hto
    have HGR := Lib.hid hgr.out
    have HX := Lib.hid hx
    clear hto hgr hx
    by_cases hgo : a < n ∧ 0 < lf
    · obtain ⟨hal, hl0⟩ := hgo
      obtain ⟨m, hm⟩ : ∃ m, L[a]? = some m := ⟨_, List.getElem?_eq_getElem (by rw [← HN.out]; exact hal)⟩
      obtain ⟨l1, l2⟩ := HKB.out.life a m hm
      obtain ⟨q1, q2⟩ := HKB.out.cost a m hm
      obtain ⟨b, o, hA, -, -⟩ := (H1.out.ext HX.out).at_ hm
      have HM := Lib.hid (fun (W : World) (x : Ext w W) => (H1.out.ext x).at_ hm)
      have HLF : Hid (Ren.lifeOf L (a : Int) = m.1) := Lib.hid (by unfold Ren.lifeOf; rw [Int.toNat_natCast, hm]; rfl)
      have HCF : Hid (Ren.costOf L (a : Int) = m.2) := Lib.hid (by unfold Ren.costOf; rw [Int.toNat_natCast, hm]; rfl)
      have HLC := Lib.hid (fun c' => HLD.out b o a c' wr hA HX.out hal)
      obtain ⟨lif, co⟩ := m
      simp only at l1 l2 q1 q2 HLF HCF
      subst hA
      clear hm
      have hac : a < c := by omega
      have e0 : decide ((a : Int) < (n : Int)) = true := decide_eq_true (by omega)
      have e00 : decide ((lf : Int) > 0) = true := decide_eq_true (by omega)
      go_upto_region 8 with (go_at_call 33; refine (HLC.out _).mono ?_; rintro e w3 ⟨g11, c11, g12, c12, rfl, ht3, hx3⟩; have HT3 := Lib.hid ht3; have HX3 := Lib.hid hx3; clear ht3 hx3)
      obtain ⟨wi, rfl⟩ : ∃ wi : World, wi = w3 := ⟨_, rfl⟩
      have HU1 := Lib.hid (two_of HTO.out.a HX3.out HT3.out.a HX.out.size)
      have HU2 := Lib.hid (two_of HTO.out.a HX3.out HT3.out.b HX.out.size)
      have HU6 := Lib.hid (HTO.out.ext HX3.out)
      have HXI := Lib.hid (HX.out.trans HX3.out)
      have HKD := Lib.hid (kbd_drop HKB.out a)
      have hlf1 : lf ≤ 1000 := by omega
      have HNA := Lib.hid (show ∀ k, k ≤ N → (costL (L.drop a) N)[k]? = some (Ren.leastC L a k) ∧ (countL (L.drop a) N)[k]? = some (Ren.leastN L a k) from fun k hk => ⟨costL_get _ hk, countL_get _ hk⟩)
      have HBD := Lib.hid (show ∀ k, k ≤ N → (0 ≤ Ren.leastC L a k ∧ Ren.leastC L a k ≤ 1000000000) ∧ (0 ≤ Ren.leastN L a k ∧ Ren.leastN L a k ≤ 1000) from fun k hk => by
        have h := Ren.best_small HKD.out N k hk
        have h1 := h.len
        have h2 := h.low
        have h3 := h.top
        unfold Ren.leastC Ren.leastN
        omega)
      clear HTO HX3 HX HT3 HLC HKD hac
      go_loopw [8, 9] (fun t8 t9 wx => ∃ (lf : Nat) (out : List Int), t9 = .int .i64 (lf : Int) ∧ lf ≤ N ∧ TwoOwn wx w.heap.size t8 (.slice (some ⟨g6, 0, none⟩) (N + 1) c6) out (costL L N) ∧ TwoOwn wx w.heap.size t8 (.slice (some ⟨g11, 0, none⟩) (N + 1) c11) out (costL (L.drop a) N) ∧ TwoOwn wx w.heap.size t8 (.slice (some ⟨g12, 0, none⟩) (N + 1) c12) out (countL (L.drop a) N) ∧ Hid (Ren.GrIs L (Ren.bestAt L N) a lf out) ∧ out.length + lf ≤ N ∧ Ext w wx) (fun _ t9 _ => (intOf t9).toNat)
      case atStart => exact ⟨lf, out, rfl, hlf, HU6.out, HU1.out, HU2.out, HGR, hol, HXI.out⟩
      case round =>
        obtain ⟨lf, out, rfl, hlf, hu6, hu1, hu2, hgr, hol, hx⟩ := hrel
        have HV6 := Lib.hid hu6
        have HV1 := Lib.hid hu1
        have HV2 := Lib.hid hu2
        have HGI := Lib.hid hgr.out
        have HXR := Lib.hid hx
        clear hu6 hu1 hu2 hgr hx HU6 HU1 HU2
        by_cases hl0 : 0 < lf
        · obtain ⟨b', o', e', m0, m1⟩ := HM.out wr HXR.out
          injection e' with e'
          injection e' with e1 e2
          subst e1
          subst e2
          obtain ⟨r, hr⟩ : ∃ r : Nat, Ren.restOf L a (lf : Int) = (r : Int) := ⟨(Ren.restOf L a (lf : Int)).toNat, by unfold Ren.restOf; omega⟩
          have HR := Lib.hid hr
          have hrv : (r : Int) = max ((lf : Int) - lif) 0 := by rw [← hr]; unfold Ren.restOf; rw [HLF.out]
          have hrN : r ≤ N := by omega
          have hrl : r < lf := by omega
          obtain ⟨ka, kb⟩ := HNA.out r hrN
          obtain ⟨kc, kd⟩ := HNA.out lf hlf
          have k1 := (kown_sl HV1.out.b).at0 ka
          have k2 := (kown_sl HV1.out.b).at0 kc
          have k3 := (kown_sl HV2.out.b).at0 kb
          have k4 := (kown_sl HV2.out.b).at0 kd
          obtain ⟨⟨x1, x2⟩, x3, x4⟩ := HBD.out r hrN
          obtain ⟨⟨y1, y2⟩, y3, y4⟩ := HBD.out lf hlf
          have HTAKE := Lib.hid (fun (a1 : Ren.leastC L a r + co = Ren.leastC L a lf) (a2 : Ren.leastN L a r + 1 = Ren.leastN L a lf) => Ren.gr_take HKO.out HGI.out (by rw [← HN.out]; exact hal) hr (by rw [HCF.out]; exact a1) a2)
          have HSKIP := Lib.hid (fun (a1 : ¬ (Ren.leastC L a r + co = Ren.leastC L a lf ∧ Ren.leastN L a r + 1 = Ren.leastN L a lf)) => Ren.gr_skip HKO.out HGI.out (by rw [← HN.out]; exact hal) hr (by rw [HCF.out]; exact a1))
          obtain ⟨cr, hcr⟩ : ∃ v, v = Ren.leastC L a r := ⟨_, rfl⟩
          obtain ⟨cl, hcl⟩ : ∃ v, v = Ren.leastC L a lf := ⟨_, rfl⟩
          obtain ⟨nr, hnr⟩ : ∃ v, v = Ren.leastN L a r := ⟨_, rfl⟩
          obtain ⟨nl, hnl⟩ : ∃ v, v = Ren.leastN L a lf := ⟨_, rfl⟩
          rw [← hcr] at k1 x1 x2 HTAKE HSKIP
          rw [← hcl] at k2 y1 y2 HTAKE HSKIP
          rw [← hnr] at k3 x3 x4 HTAKE HSKIP
          rw [← hnl] at k4 y3 y4 HTAKE HSKIP
          clear hcr hcl hnr hnl hr ka kb kc kd
          have wl : IntKind.i64.wrap ((lf : Int) - lif) = (lf : Int) - lif := IntWalk.i64_in _ (by omega)
          have e0 : decide ((lf : Int) > 0) = true := decide_eq_true (by omega)
          go_upto_region 9 with (fail)
          go_upto_if 49 with (fail)
          go_cut [13] (fun s13 wx => s13 = .int .i64 (r : Int) ∧ wx = wr)
          case first =>
            by_cases hng : (lf : Int) - lif < 0
            · have HE : Hid ((0 : Int) = (r : Int)) := Lib.hid (by rw [hrv]; omega)
              clear hrv
              go_wp2
              go_meet
              exact ⟨by rw [← HE.out], rfl⟩
            · have HE : Hid ((lf : Int) - lif = (r : Int)) := Lib.hid (by rw [hrv]; omega)
              clear hrv
              go_wp2
              go_meet
              exact ⟨by rw [← HE.out], rfl⟩
          obtain ⟨rfl, hwx⟩ := hcut
          obtain ⟨wa, rfl⟩ : ∃ wa : World, wa = wc := ⟨_, rfl⟩
          rw [← hwx] at m0 m1 k1 k2 k3 k4 HXR HV6 HV1 HV2
          clear hwx hrv wl e0
          obtain ⟨s, hs⟩ : ∃ s, s = cr + co := ⟨_, rfl⟩
          obtain ⟨s2, hs2⟩ : ∃ s2, s2 = nr + 1 := ⟨_, rfl⟩
          have wc : IntKind.i64.wrap (cr + co) = s := by rw [hs]; exact IntWalk.i64_in _ (by omega)
          have wn : IntKind.i64.wrap (nr + 1) = s2 := by rw [hs2]; exact IntWalk.i64_in _ (by omega)
          rw [← hs, ← hs2] at HTAKE HSKIP
          clear hs hs2
          have b1 : (0 : Int) ≤ (r : Int) ∧ (r : Int) < (N : Int) + 1 := by omega
          have b2 : (0 : Int) ≤ (lf : Int) ∧ (lf : Int) < (N : Int) + 1 := by omega
          have b3 : (0 : Int) ≤ (a : Int) ∧ (a : Int) < (n : Int) := by omega
          by_cases d1 : s = cl
          · by_cases d2 : s2 = nl
            · have HGT := Lib.hid (HTAKE.out d1 d2)
              have f1 : (s != cl) = false := by simpa using d1
              have f2 : (s2 != nl) = false := by simpa using d2
              clear d1 d2 HTAKE HSKIP
              go_upto_region 12 with (fail)
              go_quiet (fail)
              have HON : Hid ((out.length + 1) ≤ maxLen) := Lib.hid (by unfold maxLen; omega)
              have HOB : Hid ((out.length + 1) * 8 ≤ 140737488355328) := Lib.hid (by omega)
              have HZW := Lib.hid HXR.out.size
              obtain ⟨ir, hi, hz0, hz1, hz2⟩ := info_parts infoI
              have HI := Lib.hid hi
              have HZ0 := Lib.hid hz0
              have HZ1 := Lib.hid hz1
              have HZ2 := Lib.hid hz2
              have rba := run_buildSlice_i (a : Int)
              clear hi hz0 hz1 hz2
              go_upto_region 14 with (at_builtin; refine wpList_append_sl rfl _ _ 29 rfl w.heap.size 3 ir _ 1 8 Try.underlying29 HI.out HZ0.out HZ1.out HZ2.out rfl (by decide) _ out.length (out.map (Value.int .i64)) rfl (HV6.out.a.ext (Ext.alloc (Ext.drewN (Ext.refl wa) _) _)) (some ⟨wa.heap.size, 0, none⟩) 1 1 [.int .i64 (a : Int)] rfl (slc_at rfl [.int .i64 (a : Int)]) rfl (by simp [Value.oneCell']) HON.out HOB.out (Nat.le_trans HZW.out (Ext.size (Ext.alloc (Ext.drewN (Ext.refl wa) _) _))) ?_; intro v5 w5 ho5 hg5 ha5; have HW6 := Lib.hid ((HV6.out.ext (Ext.alloc (Ext.drewN (Ext.refl wa) _) _)).left rfl ho5 hg5 ha5); have HW1 := Lib.hid ((HV1.out.ext (Ext.alloc (Ext.drewN (Ext.refl wa) _) _)).left rfl ho5 hg5 ha5); have HW2 := Lib.hid ((HV2.out.ext (Ext.alloc (Ext.drewN (Ext.refl wa) _) _)).left rfl ho5 hg5 ha5); have HX5 := Lib.hid ((HV6.out.ext (Ext.alloc (Ext.drewN (Ext.refl wa) _) _)).up (HXR.out.trans (Ext.alloc (Ext.drewN (Ext.refl wa) _) _)) (Nat.le_refl _) hg5); clear ho5 hg5 ha5)
              go_wp2
              go_roundw
              case rel => exact ⟨r, out ++ [(a : Int)], by go_num, hrN, HW6.out, HW1.out, HW2.out, HGT, by rw [List.length_append, List.length_singleton]; omega, HX5.out⟩
              case measure => simp [intOf]; omega
            · have HGT := Lib.hid (HSKIP.out (fun q => d2 q.2))
              have f1 : (s != cl) = false := by simpa using d1
              have f2 : (s2 != nl) = true := by simpa using d2
              clear d1 d2 HTAKE HSKIP
              go_upto_region 12 with (fail)
              go_quiet (fail)
              go_wp2
              go_roundw
              case rel => exact ⟨a + 1, lf, out, by go_num, rfl, by omega, hlf, HV6.out.ext (Ext.drewN (Ext.refl wa) _), HGT, hol, HXR.out.drewN _⟩
              case measure => simp [intOf]; omega
          · have HGT := Lib.hid (HSKIP.out (fun q => d1 q.1))
            have f1 : (s != cl) = true := by simpa using d1
            clear d1 HTAKE HSKIP
            go_upto_region 12 with (fail)
            go_quiet (fail)
            go_wp2
            go_roundw
            case rel => exact ⟨a + 1, lf, out, by go_num, rfl, by omega, hlf, HV6.out.ext (Ext.drewN (Ext.refl wa) _), HGT, hol, HXR.out.drewN _⟩
            case measure => simp [intOf]; omega
        · have hl00 : lf = 0 := by omega
          subst hl00
          have HGT := Lib.hid (gr_next0 HKO.out HGI.out)
          go_wp2
          go_roundw
          case rel => exact ⟨a + 1, 0, out, by go_num, by go_num, by omega, hlf, HV6.out, HGT, hol, HXR.out⟩
          case measure => simp [intOf]; omega
    · have hbest : (Ren.bestAt L N).1 = out := by
        by_cases hl0 : 0 < lf
        · exact Ren.gr_over HGR.out (by rw [← HN.out]; omega)
        · have : lf = 0 := by omega
          subst this
          exact Ren.gr_done HKO.out HGR.out
      have HB := Lib.hid hbest
      have k6 := (kown_sl HTO.out.b).at0 (costL_get L (Nat.le_refl N))
      obtain ⟨A8, c8, rfl, p1, p2, p3, p4⟩ := own_sl5 HTO.out.a
      have HS8 : Hid (Sl wr .i64 A8 out) := Lib.hid p4
      have HF : Hid (∀ W, Ext wr W → KindsRet w L N (.returned (.tuple #[.slice A8 out.length c8, .int .i64 (Ren.bestAt L N).2])) W) := Lib.hid (fun W x => ⟨A8, c8, by rw [HB.out], by rw [HB.out]; exact SlC.ext HS8.out x, by rw [HB.out]; exact Nat.le_trans p1 p2, HX.out.trans x⟩)
      obtain ⟨ol, hole⟩ : ∃ ol, ol = out.length := ⟨_, rfl⟩
      obtain ⟨bc, hbc⟩ : ∃ bc, bc = (Ren.bestAt L N).2 := ⟨_, rfl⟩
      rw [← hole, ← hbc] at HF
      rw [← hbc] at k6
      rw [← hole]
      clear hbest p1 p2 p3 p4 hole hbc HB HS8 HTO
      have b1 : (0 : Int) ≤ (N : Int) ∧ (N : Int) < (N : Int) + 1 := by omega
      by_cases hal : a < n
      · have hl00 : lf = 0 := by omega
        subst hl00
        clear hgo
        go_upto_region 15 with (fail)
        go_quiet (fail)
        go_wp2
        go_ret2
        exact HF.out _ (Ext.drewN (Ext.refl wr) _)
      · clear hgo
        go_upto_region 15 with (fail)
        go_quiet (fail)
        go_wp2
        go_ret2
        exact HF.out _ (Ext.drewN (Ext.refl wr) _)
end Go.Proofs.Ytnijfndpefkoeaa
