import Derived.Test.YtbhcaniopdgjkaaLaw5
import Derived.Test.YtbhcaniopdgjkaaWith
import Derived.Test.YtbhcaniopdgjkaaSub
import Derived.Test.YtbhcaniopdgjkaaSmall2
namespace Go.Proofs.Ytbhcaniopdgjkaa
open Go Go.Proofs Go.RowKit
open Plain (SiteD)
set_option maxHeartbeats 1000000
set_option maxRecDepth 100000
def lexTo (a b : List Int) (k : Nat) : Prop := Plain.lexB a b = Plain.lexB (a.drop k) (b.drop k)
theorem lex_ne {a b : List Int} {k : Nat} {x y : Int} (h : lexTo a b k) (hx : a[k]? = some x) (hy : b[k]? = some y) (hn : x ≠ y) : Plain.lexB a b = decide (x < y) := by
  obtain ⟨h1, rfl⟩ := List.getElem?_eq_some_iff.1 hx
  obtain ⟨h2, rfl⟩ := List.getElem?_eq_some_iff.1 hy
  rw [h, List.drop_eq_getElem_cons h1, List.drop_eq_getElem_cons h2, Plain.lexB, if_neg hn]
theorem lex_next {a b : List Int} {k : Nat} {x : Int} (h : lexTo a b k) (hx : a[k]? = some x) (hy : b[k]? = some x) : lexTo a b (k + 1) := by
  obtain ⟨h1, e1⟩ := List.getElem?_eq_some_iff.1 hx
  obtain ⟨h2, e2⟩ := List.getElem?_eq_some_iff.1 hy
  unfold lexTo
  rw [h, List.drop_eq_getElem_cons h1, List.drop_eq_getElem_cons h2, Plain.lexB, if_pos (by rw [e1, e2])]
theorem lex_end {a b : List Int} {k : Nat} (h : lexTo a b k) (hk : k ≤ a.length) (hk' : k ≤ b.length) (he : a.length ≤ k ∨ b.length ≤ k) : Plain.lexB a b = decide ((a.length : Int) < (b.length : Int)) := by
  rw [h]
  rcases Nat.lt_or_ge k b.length with q | q
  · have : a.length = k := by omega
    rw [List.drop_of_length_le (Nat.le_of_eq this), List.drop_eq_getElem_cons q, decide_eq_true (by omega)]
    rfl
  · rw [List.drop_of_length_le q, decide_eq_false (by omega)]
    cases a.drop k <;> rfl
theorem lesser_c (A B : Option Addr) (a b : List Int) (c d : Nat) (w : World) (ha : a.length ≤ maxLen) (_hb : b.length ≤ maxLen) (h1 : Sl w .i64 A a) (h2 : Sl w .i64 B b) :
    Calls Try.prog 63 #[.slice A a.length c, .slice B b.length d] w fun e w' => e = .returned (.bool (Plain.lexB a b)) ∧ ∃ m, w' = w.drewN m := by
  unfold maxLen at ha _hb
  obtain ⟨r, hr⟩ : ∃ r, Plain.lexB a b = r := ⟨_, rfl⟩
  rw [hr]
  have HRR := Lib.hid hr
  obtain ⟨p, hp⟩ : ∃ p, p = a.length := ⟨_, rfl⟩
  obtain ⟨q, hq⟩ : ∃ q, q = b.length := ⟨_, rfl⟩
  rw [← hp] at ha ⊢
  rw [← hq] at _hb ⊢
  have HP := Lib.hid hp
  have HQ := Lib.hid hq
  clear hp hq hr
  go_enter Try.func63, Try.ntmps63
  go_wp2
  go_loopw [5] (fun i wr => ∃ k m : Nat, k ≤ p ∧ k ≤ q ∧ i = .int .i64 k ∧ lexTo a b k ∧ wr = w.drewN m) (fun i _ => p - (intOf i).toNat)
  case atStart => exact ⟨0, 0, Nat.zero_le _, Nat.zero_le _, rfl, rfl, rfl⟩
  case round =>
    obtain ⟨k, m, hk, hkq, rfl, hr, rfl⟩ := hrel
    have HR := Lib.hid hr
    clear hr
    by_cases hlt : k < p
    · by_cases hltq : k < q
      · obtain ⟨b1, o1, x, rfl, hx, hc1⟩ := h1.at2 (show k < a.length by rw [← HP.out]; exact hlt)
        obtain ⟨b2, o2, y, rfl, hy, hc2⟩ := h2.at2 (show k < b.length by rw [← HQ.out]; exact hltq)
        by_cases hne : x = y
        · subst hne
          have HN := Lib.hid (lex_next HR.out hx.out hy.out)
          go_wp2
          go_quiet (fail)
          go_wp2
          refine ⟨⟨k + 1, _, by omega, by omega, by go_num, HN.out, rfl⟩, by simp [intOf]; omega⟩
        · have f1 : (x != y) = true := by simpa using hne
          have HC := Lib.hid ((lex_ne HR.out hx.out hy.out hne).symm.trans HRR.out)
          clear hne
          go_wp2
          go_quiet (fail)
          go_wp2
          go_quiet (fail)
          go_wp2
          go_ret
          exact ⟨ret_bool HC.out, _, by first | rfl | exact World.drewN_drewN _ _ _ | (rw [World.drewN_drewN, World.drewN_drewN])⟩
      · have HC := Lib.hid ((lex_end HR.out (by rw [← HP.out]; omega) (by rw [← HQ.out]; omega) (.inr (by rw [← HQ.out]; omega))).symm.trans HRR.out)
        rw [← HP.out, ← HQ.out] at HC
        go_wp2
        go_ret
        exact ⟨ret_bool (by first | exact HC.out | (rw [← HC.out]; simp)), _, rfl⟩
    · have HC := Lib.hid ((lex_end HR.out (by rw [← HP.out]; omega) (by rw [← HQ.out]; omega) (.inl (by rw [← HP.out]; omega))).symm.trans HRR.out)
      rw [← HP.out, ← HQ.out] at HC
      go_wp2
      go_ret
      exact ⟨ret_bool (by first | exact HC.out | (rw [← HC.out]; simp)), _, rfl⟩
theorem scanLess_snoc (num : List Int → Nat) : ∀ (cs : List (List Int)) (c : List Int) (acc : Option (List Int)), Plain.scanLess num (cs ++ [c]) acc = Plain.scanLess num [c] (Plain.scanLess num cs acc)
  | [], _, _ => rfl
  | d :: cs, c, none => by rw [List.cons_append, Plain.scanLess, Plain.scanLess]; exact scanLess_snoc num cs c _
  | d :: cs, c, some b => by rw [List.cons_append, Plain.scanLess, Plain.scanLess]; exact scanLess_snoc num cs c _
/-- The sets of the first masks that have the right number. -/
def cands (Z : List Int) (cnt k : Nat) : List (List Int) := ((List.range k).map (Plain.subsetM Z)).filter fun c => decide (c.length = cnt)
theorem cands_succ (Z : List Int) (cnt k : Nat) : cands Z cnt (k + 1) = cands Z cnt k ++ (if (Plain.subsetM Z k).length = cnt then [Plain.subsetM Z k] else []) := by
  unfold cands
  rw [List.range_succ, List.map_append, List.filter_append]
  congr 1
  by_cases h : (Plain.subsetM Z k).length = cnt <;> simp [h]
def accL (L : List SiteD) (ch Z : List Int) (cnt k : Nat) : Option (List Int) := Plain.scanLess (fun c => (Plain.leftF L ch c).length) (cands Z cnt k) none
theorem accL_skip {L : List SiteD} {ch Z : List Int} {cnt k : Nat} (h : (Plain.subsetM Z k).length ≠ cnt) : accL L ch Z cnt (k + 1) = accL L ch Z cnt k := by
  unfold accL; rw [cands_succ, if_neg h, List.append_nil]
theorem accL_take {L : List SiteD} {ch Z : List Int} {cnt k : Nat} (h : (Plain.subsetM Z k).length = cnt) : accL L ch Z cnt (k + 1) = Plain.scanLess (fun c => (Plain.leftF L ch c).length) [Plain.subsetM Z k] (accL L ch Z cnt k) := by
  unfold accL; rw [cands_succ, if_pos h, scanLess_snoc]
/-- The variables best and least. -/
def leastOf (L : List SiteD) (ch : List Int) : Option (List Int) → Int
  | none => -1
  | some b => ((Plain.leftF L ch b).length : Int)
def bestOf : Option (List Int) → List Int
  | none => []
  | some b => b
theorem worst_same (L : List SiteD) (ch : List Int) (cnt : Nat) (h : cnt ≤ (Plain.zonesF L).length) :
    worstP L ch cnt = (bestOf (accL L ch (Plain.zonesF L) cnt (2 ^ (Plain.zonesF L).length)), leastOf L ch (accL L ch (Plain.zonesF L) cnt (2 ^ (Plain.zonesF L).length))) := by
  obtain ⟨b, h1, h2⟩ := worstP_best L ch cnt h
  have hm : ∀ c, c ∈ Plain.combs cnt (Plain.zonesF L) ↔ c ∈ cands (Plain.zonesF L) cnt (2 ^ (Plain.zonesF L).length) := by
    intro c
    rw [Plain.mem_combs]
    unfold cands
    rw [List.mem_filter, List.mem_map]
    constructor
    · rintro ⟨h3, h4⟩
      obtain ⟨m, h5, h6⟩ := Plain.subsetM_all _ c h3
      exact ⟨⟨m, List.mem_range.2 h5, h6⟩, by simpa using h4⟩
    · rintro ⟨⟨m, _, rfl⟩, h4⟩
      exact ⟨Plain.subsetM_sub _ _, by simpa using h4⟩
  have hne : cands (Plain.zonesF L) cnt (2 ^ (Plain.zonesF L).length) ≠ [] := by
    intro e
    have := (hm b).1 h2.1
    rw [e] at this
    simp at this
  obtain ⟨r, h3, h4⟩ := Plain.scanLess_best (fun c => (Plain.leftF L ch c).length) _ hne
  have hbr : b = r := Plain.best_unique h2 h4 hm
  rw [h1]
  unfold accL
  rw [h3, hbr]
  rfl
def W2Ret (w : World) (l : List Int) (n : Int) (e : Ending) (w' : World) : Prop := ∃ v, e = .returned (.tuple #[v, .int .i64 n]) ∧ LV w' v l ∧ Ext w w'
theorem lesserX_c (A B : Option Addr) (a b : List Int) (c d : Nat) (w : World) (ha : a.length ≤ maxLen) (hb : b.length ≤ maxLen) (h1 : Sl w .i64 A a) (h2 : Sl w .i64 B b) : Calls Try.prog 63 #[.slice A a.length c, .slice B b.length d] w (BRet w (Plain.lexB a b)) :=
  (lesser_c A B a b c d w ha hb h1 h2).mono fun _ _ h => by
    obtain ⟨h, m, rfl⟩ := h
    exact ⟨h, (Ext.refl w).drewN m⟩
theorem subsetM_len (l : List Int) (m : Nat) : (Plain.subsetM l m).length ≤ l.length := (Plain.subsetM_sub l m).length_le
theorem WorstOf_c (A C : Option Addr) (L : List SiteD) (ch : List Int) (c1 c2 count : Nat) (w : World) (hL : L.length ≤ 100000) (hc : ch.length ≤ 100000) (hk : count ≤ 12) (h1 : Sites w A L) (h2 : Sl w .i64 C ch) (hv : ∀ i ∈ ch, 0 ≤ i ∧ i < L.length) :
    Calls Try.prog 32 #[.slice A L.length c1, .slice C ch.length c2, .int .i64 (count : Int)] w
      (W2Ret w (bestOf (accL L ch (Plain.zonesF L) (min count (Plain.zonesF L).length) (2 ^ (Plain.zonesF L).length))) (leastOf L ch (accL L ch (Plain.zonesF L) (min count (Plain.zonesF L).length) (2 ^ (Plain.zonesF L).length)))) := by
  have HZO := Lib.hid (ZonesOf_c A L c1 w hL h1)
  have hzl : (Plain.zonesF L).length ≤ 12 := zonesTo_len L 12
  generalize Plain.zonesF L = Z at *
  have HLE := Lib.hid (fun (D : Option Addr) (l : List Int) (c3 : Nat) w1 (x : Ext w w1) (hl : l.length ≤ 12) (hd : Sl w1 .i64 D l) => LeftOf_c A C D L ch l c1 c2 c3 w1 hc (by unfold maxLen; omega) hL (h1.ext x) (h2.ext x) hd hv)
  obtain ⟨cnt, hcnt⟩ : ∃ cnt, cnt = min count Z.length := ⟨_, rfl⟩
  rw [← hcnt]
  obtain ⟨PW, hPW⟩ : ∃ PW, PW = 2 ^ Z.length := ⟨_, rfl⟩
  rw [← hPW]
  have hp1 := powI_le (n := Z.length) (by omega)
  have hpw : powI Z.length = (PW : Int) := by rw [hPW]; rfl
  rw [hpw] at hp1
  have HPO := Lib.hid (fun w1 => power_c Z.length w1 (by omega))
  rw [hpw] at HPO
  have HC := Lib.hid hcnt
  have hc12 : cnt ≤ 12 := by omega
  have hchl : ∀ l, (Plain.leftF L ch l).length ≤ ch.length := fun l => List.length_filter_le _ _
  have HCHL := Lib.hid hchl
  clear h1 h2 hv hchl hPW hpw hcnt
  go_enter Try.func32, Try.ntmps32
  go_upto_if 19 with (go_at_call 25; refine HZO.out.mono ?_; rintro e w1 ⟨v1, rfl, ho1, hx1⟩; obtain ⟨R, rc, rfl, _, _, _, l8⟩ := own_sl ho1; have HL8 := Lib.hid l8; have HX1 := Lib.hid hx1; clear ho1 hx1 l8)
  go_cut [2] (fun s2 wx => s2 = .int .i64 (cnt : Int) ∧ wx = w1)
  case first =>
    by_cases hgt : (Z.length : Int) < (count : Int)
    · have hcz : (Z.length : Int) = (cnt : Int) := by have := HC.out; omega
      go_wp2_with fail
      go_meet
      exact ⟨by first | rfl | rw [hcz], rfl⟩
    · have hcz : (count : Int) = (cnt : Int) := by have := HC.out; omega
      go_wp2_with fail
      go_meet
      exact ⟨by first | rfl | rw [hcz], rfl⟩
  case rest =>
    obtain ⟨rfl, rfl⟩ := hcut
    have HL8 : Hid (Sl wc .i64 R Z) := HL8.out
    go_wp2
    go_loopw [9, 10, 11] (fun v9 v10 v11 wx => ∃ k : Nat, k ≤ PW ∧ v11 = .int .i64 k ∧ v10 = .int .i64 (leastOf L ch (accL L ch Z cnt k)) ∧ LV wx v9 (bestOf (accL L ch Z cnt k)) ∧ (bestOf (accL L ch Z cnt k)).length ≤ 12 ∧ Ext wc wx) (fun _ _ v11 _ => PW - (intOf v11).toNat)
    case atStart => exact ⟨0, Nat.zero_le _, rfl, rfl, ⟨none, 0, rfl, SlC.nil _ _⟩, by simp [accL, cands, Plain.scanLess, bestOf], Ext.refl _⟩
    case round =>
      obtain ⟨k, hkp, rfl, rfl, ⟨R9, d9, rfl, l9⟩, hbl, hx⟩ := hrel
      have HL9 := Lib.hid l9
      have HX := Lib.hid hx
      obtain ⟨acc, hacc⟩ : ∃ acc, acc = accL L ch Z cnt k := ⟨_, rfl⟩
      rw [← hacc] at HL9 hbl
      rw [← hacc]
      have HAC := Lib.hid hacc
      clear l9 hx hacc
      by_cases hlt : k < PW
      · have hki : (k : Int) < (PW : Int) := by omega
        have HSUB := Lib.hid (subset_c R Z rc k wr (by omega) (by omega) (HL8.out.ext HX.out))
        have hsl := subsetM_len Z k
        have HSK := Lib.hid (accL_skip (L := L) (ch := ch) (Z := Z) (cnt := cnt) (k := k))
        have HTK := Lib.hid (accL_take (L := L) (ch := ch) (Z := Z) (cnt := cnt) (k := k))
        rw [← HAC.out] at HSK HTK
        generalize Plain.subsetM Z k = S at *
        by_cases hle : S.length = cnt
        · have hne : ((S.length : Int) != (cnt : Int)) = false := by simp; omega
          have HT := Lib.hid (HTK.out hle)
          have HLEF := Lib.hid (fun (D : Option Addr) c3 w1 (x : Ext w w1) (hd : Sl w1 .i64 D S) => HLE.out D S c3 w1 x (by omega) hd)
          have hnl := HCHL.out S
          clear hle
          have hnl2 : (Plain.leftF L ch S).length ≤ 100000 := by omega
          cases acc with
          | none =>
            have HE : Hid (accL L ch Z cnt (k + 1) = some S) := HT.out
            have hl0 : leastOf L ch none = -1 := rfl
            go_wp2_with (first | (go_at_call 61; refine (HPO.out _).mono ?_; rintro e w' ⟨rfl, rfl⟩) | (go_at_call 62; refine HSUB.out.mono ?_; rintro e w2 ⟨v2, rfl, ho2, hx2⟩; obtain ⟨R2, rc2, rfl, _, _, _, l2⟩ := own_sl ho2; have HL2 := Lib.hid l2; have HX2 := Lib.hid (HX.out.trans hx2); have HXR := Lib.hid hx2; clear ho2 hx2 l2) | (go_at_call 26; refine (HLEF.out R2 rc2 w2 (HX1.out.trans HX2.out) HL2.out).mono ?_; rintro e w3 ⟨v3, rfl, ho3, hx3⟩; obtain ⟨R3, rc3, rfl, _, _, _, _⟩ := own_sl ho3; have HX3 := Lib.hid (HX2.out.trans hx3); have HL3 := Lib.hid (Sl.ext HL2.out hx3); have HL93 := Lib.hid ((HL9.out.ext HXR.out).ext hx3); clear ho3 hx3))
            exact ⟨⟨k + 1, by omega, by go_num, by rw [HE.out]; first | rfl | (show Value.int _ _ = Value.int _ ((Plain.leftF L ch _).length : Int); first | rw [← HNB.out] | (rw [← HNS.out]; done) | rw [← HNS.out, c2]), ⟨R2, rc2, by rw [HE.out]; rfl, by rw [HE.out]; exact HL3.out⟩, by rw [HE.out]; show S.length ≤ 12; omega, HX3.out⟩, by simp [intOf]; omega⟩
          | some b =>
            have hbl' : b.length ≤ 12 := hbl
            obtain ⟨nb, hnb⟩ : ∃ nb : Nat, nb = (Plain.leftF L ch b).length := ⟨_, rfl⟩
            have hl0 : leastOf L ch (some b) = (nb : Int) := by rw [hnb]; rfl
            have HL9 : Hid (Sl wr .i64 R9 b) := HL9.out
            have hbo : bestOf (some b) = b := rfl
            have HT2 : Hid (accL L ch Z cnt (k + 1) = some (if (Plain.leftF L ch S).length < nb ∨ ((Plain.leftF L ch S).length = nb ∧ Plain.lexB S b = true) then S else b)) := by
              show _ = _
              rw [HT.out, hnb]; rfl
            have HNB := Lib.hid hnb
            clear hnb HT
            obtain ⟨ns, hns⟩ : ∃ ns : Nat, ns = (Plain.leftF L ch S).length := ⟨_, rfl⟩
            rw [← hns] at HT2 hnl2
            have HNS := Lib.hid hns
            have hn0 : ¬ (nb : Int) < 0 := by omega
            have hlsn : ((Plain.leftF L ch S).length : Int) = (ns : Int) := by rw [hns]
            clear hns
            by_cases c1 : ns < nb
            · have HE : Hid (accL L ch Z cnt (k + 1) = some S) := by show _ = _; rw [HT2.out, if_pos (.inl c1)]
              have c1i : (ns : Int) < (nb : Int) := by omega
              go_wp2_with (first | (go_at_call 61; refine (HPO.out _).mono ?_; rintro e w' ⟨rfl, rfl⟩) | (go_at_call 62; refine HSUB.out.mono ?_; rintro e w2 ⟨v2, rfl, ho2, hx2⟩; obtain ⟨R2, rc2, rfl, _, _, _, l2⟩ := own_sl ho2; have HL2 := Lib.hid l2; have HX2 := Lib.hid (HX.out.trans hx2); have HXR := Lib.hid hx2; clear ho2 hx2 l2) | (go_at_call 26; refine (HLEF.out R2 rc2 w2 (HX1.out.trans HX2.out) HL2.out).mono ?_; rintro e w3 ⟨v3, rfl, ho3, hx3⟩; obtain ⟨R3, rc3, rfl, _, _, _, _⟩ := own_sl ho3; have HX3 := Lib.hid (HX2.out.trans hx3); have HL3 := Lib.hid (Sl.ext HL2.out hx3); have HL93 := Lib.hid ((HL9.out.ext HXR.out).ext hx3); clear ho3 hx3))
              exact ⟨⟨k + 1, by omega, by go_num, by rw [HE.out]; first | rfl | (show Value.int _ _ = Value.int _ ((Plain.leftF L ch _).length : Int); first | rw [← HNB.out] | (rw [← HNS.out]; done) | rw [← HNS.out, c2]), ⟨R2, rc2, by rw [HE.out]; rfl, by rw [HE.out]; exact HL3.out⟩, by rw [HE.out]; show S.length ≤ 12; omega, HX3.out⟩, by simp [intOf]; omega⟩
            · have c1i : ¬ (ns : Int) < (nb : Int) := by omega
              by_cases c2 : ns = nb
              · have c2i : ((ns : Int) == (nb : Int)) = true := by simp; omega
                cases c3 : Plain.lexB S b with
                | true =>
                  have HE : Hid (accL L ch Z cnt (k + 1) = some S) := by show _ = _; rw [HT2.out, if_pos (.inr ⟨c2, c3⟩)]
                  go_wp2_with (first | (go_at_call 61; refine (HPO.out _).mono ?_; rintro e w' ⟨rfl, rfl⟩) | (go_at_call 62; refine HSUB.out.mono ?_; rintro e w2 ⟨v2, rfl, ho2, hx2⟩; obtain ⟨R2, rc2, rfl, _, _, _, l2⟩ := own_sl ho2; have HL2 := Lib.hid l2; have HX2 := Lib.hid (HX.out.trans hx2); have HXR := Lib.hid hx2; clear ho2 hx2 l2) | (go_at_call 26; refine (HLEF.out R2 rc2 w2 (HX1.out.trans HX2.out) HL2.out).mono ?_; rintro e w3 ⟨v3, rfl, ho3, hx3⟩; obtain ⟨R3, rc3, rfl, _, _, _, _⟩ := own_sl ho3; have HX3 := Lib.hid (HX2.out.trans hx3); have HL3 := Lib.hid (Sl.ext HL2.out hx3); have HL93 := Lib.hid ((HL9.out.ext HXR.out).ext hx3); clear ho3 hx3) | (go_at_call 63; refine (lesserX_c R2 R9 S b rc2 d9 w3 (by unfold maxLen; omega) (by unfold maxLen; omega) HL3.out HL93.out).mono ?_; rintro e w4 ⟨rfl, hx4⟩; have HX4 := Lib.hid (HX3.out.trans hx4); have HXQ := Lib.hid hx4; clear hx4))
                  exact ⟨⟨k + 1, by omega, by go_num, by rw [HE.out]; first | rfl | (show Value.int _ _ = Value.int _ ((Plain.leftF L ch _).length : Int); first | rw [← HNB.out] | (rw [← HNS.out]; done) | rw [← HNS.out, c2]), ⟨R2, rc2, by rw [HE.out]; rfl, by rw [HE.out]; exact HL3.out.ext HXQ.out⟩, by rw [HE.out]; show S.length ≤ 12; omega, HX4.out⟩, by simp [intOf]; omega⟩
                | false =>
                  have HE : Hid (accL L ch Z cnt (k + 1) = some b) := by show _ = _; rw [HT2.out, if_neg (by rintro (h | ⟨_, h⟩); exact c1 h; rw [c3] at h; cases h)]
                  go_wp2_with (first | (go_at_call 61; refine (HPO.out _).mono ?_; rintro e w' ⟨rfl, rfl⟩) | (go_at_call 62; refine HSUB.out.mono ?_; rintro e w2 ⟨v2, rfl, ho2, hx2⟩; obtain ⟨R2, rc2, rfl, _, _, _, l2⟩ := own_sl ho2; have HL2 := Lib.hid l2; have HX2 := Lib.hid (HX.out.trans hx2); have HXR := Lib.hid hx2; clear ho2 hx2 l2) | (go_at_call 26; refine (HLEF.out R2 rc2 w2 (HX1.out.trans HX2.out) HL2.out).mono ?_; rintro e w3 ⟨v3, rfl, ho3, hx3⟩; obtain ⟨R3, rc3, rfl, _, _, _, _⟩ := own_sl ho3; have HX3 := Lib.hid (HX2.out.trans hx3); have HL3 := Lib.hid (Sl.ext HL2.out hx3); have HL93 := Lib.hid ((HL9.out.ext HXR.out).ext hx3); clear ho3 hx3) | (go_at_call 63; refine (lesserX_c R2 R9 S b rc2 d9 w3 (by unfold maxLen; omega) (by unfold maxLen; omega) HL3.out HL93.out).mono ?_; rintro e w4 ⟨rfl, hx4⟩; have HX4 := Lib.hid (HX3.out.trans hx4); have HXQ := Lib.hid hx4; clear hx4))
                  exact ⟨⟨k + 1, by omega, by go_num, by rw [HE.out]; first | rfl | (show Value.int _ _ = Value.int _ ((Plain.leftF L ch _).length : Int); first | rw [← HNB.out] | (rw [← HNS.out]; done) | rw [← HNS.out, c2]), ⟨R9, d9, by rw [HE.out]; rfl, by rw [HE.out]; exact HL93.out.ext HXQ.out⟩, by rw [HE.out]; exact hbl, HX4.out⟩, by simp [intOf]; omega⟩
              · have c2i : ((ns : Int) == (nb : Int)) = false := by simp; omega
                have HE : Hid (accL L ch Z cnt (k + 1) = some b) := by show _ = _; rw [HT2.out, if_neg (by rintro (h | ⟨h, _⟩); exact c1 h; exact c2 h)]
                go_wp2_with (first | (go_at_call 61; refine (HPO.out _).mono ?_; rintro e w' ⟨rfl, rfl⟩) | (go_at_call 62; refine HSUB.out.mono ?_; rintro e w2 ⟨v2, rfl, ho2, hx2⟩; obtain ⟨R2, rc2, rfl, _, _, _, l2⟩ := own_sl ho2; have HL2 := Lib.hid l2; have HX2 := Lib.hid (HX.out.trans hx2); have HXR := Lib.hid hx2; clear ho2 hx2 l2) | (go_at_call 26; refine (HLEF.out R2 rc2 w2 (HX1.out.trans HX2.out) HL2.out).mono ?_; rintro e w3 ⟨v3, rfl, ho3, hx3⟩; obtain ⟨R3, rc3, rfl, _, _, _, _⟩ := own_sl ho3; have HX3 := Lib.hid (HX2.out.trans hx3); have HL3 := Lib.hid (Sl.ext HL2.out hx3); have HL93 := Lib.hid ((HL9.out.ext HXR.out).ext hx3); clear ho3 hx3))
                exact ⟨⟨k + 1, by omega, by go_num, by rw [HE.out]; first | rfl | (show Value.int _ _ = Value.int _ ((Plain.leftF L ch _).length : Int); first | rw [← HNB.out] | (rw [← HNS.out]; done) | rw [← HNS.out, c2]), ⟨R9, d9, by rw [HE.out]; rfl, by rw [HE.out]; exact HL93.out⟩, by rw [HE.out]; exact hbl, HX3.out⟩, by simp [intOf]; omega⟩
        · have hne : ((S.length : Int) != (cnt : Int)) = true := by simp; omega
          have HE := Lib.hid (HSK.out hle)
          clear hle
          go_wp2_with (first | (go_at_call 61; refine (HPO.out _).mono ?_; rintro e w' ⟨rfl, rfl⟩) | (go_at_call 62; refine HSUB.out.mono ?_; rintro e w2 ⟨v2, rfl, ho2, hx2⟩; obtain ⟨R2, rc2, rfl, _, _, _, l2⟩ := own_sl ho2; have HX2 := Lib.hid hx2; clear ho2 hx2 l2))
          exact ⟨⟨k + 1, by omega, by go_num, by rw [HE.out], ⟨R9, d9, by rw [HE.out], by rw [HE.out]; exact HL9.out.ext HX2.out⟩, by rw [HE.out]; exact hbl, HX.out.trans HX2.out⟩, by simp [intOf]; omega⟩
      · have hki : ¬ (k : Int) < (PW : Int) := by omega
        have hkk : k = PW := by omega
        subst hkk
        have HE : Hid (accL L ch Z cnt k = acc) := HAC.out.symm
        go_wp2_with (first | (go_at_call 61; refine (HPO.out _).mono ?_; rintro e w' ⟨rfl, rfl⟩))
        exact bodyPost_ret (v := .tuple #[.slice R9 (bestOf acc).length d9, .int .i64 (leastOf L ch acc)]) (results_tmp2 Try.results32 _ _ _) rfl ⟨_, by rw [HE.out], ⟨R9, d9, by rw [HE.out], by rw [HE.out]; exact HL9.out⟩, HX1.out.trans HX.out⟩
theorem MediumOk_c (made life : Int) (w : World) : Calls Try.prog 30 #[.agg #[.int .i64 made, .int .i64 life]] w (BRet w (inB made 0 9999 && inB life 1 1000)) := by
  have HX := Lib.hid ((Ext.refl w).alloc (.cells #[.int .i64 made, .int .i64 life] 43))
  cases h1 : inB made 0 9999 with
  | true =>
    go_enter Try.func30, Try.ntmps30
    go_wp2_with (go_at_call 29; refine (In_c _ _ _ _).mono ?_; rintro e w' ⟨rfl, rfl⟩)
    go_ret
    exact ⟨by simp, HX.out⟩
  | false =>
    go_enter Try.func30, Try.ntmps30
    go_wp2_with (go_at_call 29; refine (In_c _ _ _ _).mono ?_; rintro e w' ⟨rfl, rfl⟩)
    go_ret
    exact ⟨by simp, HX.out⟩
theorem LifeOf_c (nm : ByteArray) (Z : Option Addr) (n c : Nat) (co we life : Int) (w : World) (h1 : 0 ≤ we ∧ we ≤ 90) (h2 : 1 ≤ life ∧ life ≤ 1000) :
    Calls Try.prog 31 #[.agg #[.string nm, .slice Z n c, .int .i64 co, .int .i64 we], .int .i64 life] w fun e w' => e = .returned (.int .i64 (max (life * (100 - we) / 100) 1)) ∧ Ext w w' := by
  have HX := Lib.hid ((Ext.refl w).alloc (.cells #[.string nm, .slice Z n c, .int .i64 co, .int .i64 we] 52))
  have m0 : 0 ≤ life * (100 - we) := Int.mul_nonneg (by omega) (by omega)
  have m1 : life * (100 - we) ≤ 1000 * 100 := Int.mul_le_mul (by omega) (by omega) (by omega) (by omega)
  obtain ⟨P, hP⟩ : ∃ P, P = life * (100 - we) := ⟨_, rfl⟩
  rw [← hP] at m0 m1 ⊢
  have ww1 : IntKind.i64.wrap (100 - we) = 100 - we := IntWalk.i64_in _ (by omega)
  have ww2 : IntKind.i64.wrap (life * (100 - we)) = P := by rw [← hP]; exact IntWalk.i64_in _ (by omega)
  have ww2' : life * (100 - we) = P := hP.symm
  have ww3 : P.tdiv 100 = P / 100 := Int.tdiv_eq_ediv_of_nonneg m0
  have ww4 : IntKind.i64.wrap (P / 100) = P / 100 := IntWalk.i64_in _ (by omega)
  have HM : Hid (P / 100 < 1 → max (P / 100) 1 = 1) := fun h => by omega
  have HM2 : Hid (¬ P / 100 < 1 → max (P / 100) 1 = P / 100) := fun h => by omega
  clear hP
  by_cases hlt : P / 100 < 1
  · rw [HM.out hlt]
    go_enter Try.func31, Try.ntmps31
    go_wp2
    go_ret
    exact ⟨rfl, HX.out⟩
  · rw [HM2.out hlt]
    go_enter Try.func31, Try.ntmps31
    go_wp2
    go_ret
    exact ⟨rfl, HX.out⟩
theorem FBlk.cells2 {w : World} {g : Nat} {f : Int × Int} (h : FBlk w g f) : w.cell? ⟨g, 0, none⟩ = some (.int .i64 f.1) ∧ w.cell? ⟨g, 1, none⟩ = some (.int .i64 f.2) := ⟨h.c0, h.c1⟩
theorem worstFault_cases (L : List SiteD) (ch : List Int) (count : Int) (f1 f2 : Int) (hf : Plain.chosenF L ch = (f1, f2)) : worstFault L ch count = if f1 = 0 ∧ inB count 0 12 = false then (4, -3) else (f1, f2) := by
  unfold worstFault
  rw [hf]
  by_cases h0 : f1 = 0
  · have hz : Plain.chosenF L ch = (0, 0) := chosenF_code L ch (by rw [hf]; exact h0)
    rw [hf] at hz
    rw [hz]
    injection hz with h1 h2
    subst h1
    rw [if_neg (by simp)]
    unfold inB
    by_cases h3 : count < 0 ∨ 12 < count
    · rw [if_pos h3, if_pos ⟨rfl, by simp; omega⟩]
    · rw [if_neg h3, if_neg (by simp; omega)]
  · rw [if_pos (by intro h; apply h0; injection h), if_neg (by simp [h0])]
theorem lifeFault_cases (L : List SiteD) (site made life f1 f2 : Int) (hf : Plain.sitesF L = (f1, f2)) :
    lifeFault L site made life = if f1 = 0 ∧ inB site 0 ((L.length : Int) - 1) = false then (4, -2) else if f1 = 0 ∧ (inB made 0 9999 && inB life 1 1000) = false then (4, -3) else (f1, f2) := by
  unfold lifeFault
  rw [hf]
  by_cases h0 : f1 = 0
  · have hz : Plain.sitesF L = (0, 0) := sitesF_code L (by rw [hf]; exact h0)
    rw [hf] at hz
    rw [hz]
    injection hz with h1 h2
    subst h1
    rw [if_neg (by simp)]
    unfold inB
    by_cases h3 : site < 0 ∨ (L.length : Int) ≤ site
    · rw [if_pos h3, if_pos ⟨rfl, by simp; omega⟩]
    · have hs : decide (0 ≤ site ∧ site ≤ (L.length : Int) - 1) = true := decide_eq_true (by omega)
      rw [if_neg h3, hs]
      by_cases h4 : made < 0 ∨ 9999 < made ∨ life < 1 ∨ 1000 < life
      · have hm : (decide (0 ≤ made ∧ made ≤ 9999) && decide (1 ≤ life ∧ life ≤ 1000)) = false := by
          by_cases h5 : 0 ≤ made ∧ made ≤ 9999
          · rw [decide_eq_false (show ¬ (1 ≤ life ∧ life ≤ 1000) by omega)]; simp
          · rw [decide_eq_false h5]; simp
        rw [if_pos h4, hm]; simp
      · have hm : (decide (0 ≤ made ∧ made ≤ 9999) && decide (1 ≤ life ∧ life ≤ 1000)) = true := by
          rw [decide_eq_true (show 0 ≤ made ∧ made ≤ 9999 by omega), decide_eq_true (show 1 ≤ life ∧ life ≤ 1000 by omega)]; rfl
        rw [if_neg h4, hm]; simp
  · rw [if_pos (by intro h; apply h0; injection h), if_neg (by simp [h0]), if_neg (by simp [h0])]
theorem lifeFault_code (L : List SiteD) (site made life : Int) (h : (lifeFault L site made life).1 = 0) : lifeFault L site made life = (0, 0) := by
  unfold lifeFault at *
  split at h
  · rename_i hc; rw [if_pos hc]; exact sitesF_code L h
  · rename_i hc
    rw [if_neg hc]
    split at h
    · cases h
    · rename_i h2
      rw [if_neg h2]
      split at h
      · cases h
      · rename_i h3; rw [if_neg h3]
theorem worstOf_law (A C : Option Addr) (L : List SiteD) (ch : List Int) (c1 c2 : Nat) (count : Int) (w : World) (h1 : Sites w A L) (h2 : Sl w .i64 C ch) (hf : worstFault L ch count = (0, 0)) :
    Calls Try.prog 32 #[.slice A L.length c1, .slice C ch.length c2, .int .i64 count] w (W2Ret w (worstR L ch count).1 (worstR L ch count).2) := by
  obtain ⟨a1, a2, a3⟩ := worstFault_ok hf
  obtain ⟨b1, b2⟩ := chosenF_ok a1
  have b3 := sitesF_len b1
  have b4 := rising_len b2
  obtain ⟨K, rfl⟩ : ∃ K : Nat, count = K := ⟨count.toNat, by omega⟩
  have := WorstOf_c A C L ch c1 c2 K w (by omega) (by omega) (by omega) h1 h2 (Plain.risingC_iff.1 b2).2
  have e : worstR L ch (K : Int) = (bestOf (accL L ch (Plain.zonesF L) (min K (Plain.zonesF L).length) (2 ^ (Plain.zonesF L).length)), leastOf L ch (accL L ch (Plain.zonesF L) (min K (Plain.zonesF L).length) (2 ^ (Plain.zonesF L).length))) := by
    unfold worstR
    rw [if_pos hf, Int.toNat_natCast]
    exact worst_same L ch _ (Nat.min_le_right _ _)
  rw [e]
  exact this
theorem life_site (L : List SiteD) (site made life : Int) (w : World) (A : Option Addr) (h1 : Sites w A L) (hf : lifeFault L site made life = (0, 0)) :
    ∃ (X : Nat) (s : SiteD) (b o : Nat), site = X ∧ X < L.length ∧ A = some ⟨b, o, none⟩ ∧ SiteAt w b (o + X * 4) s ∧ (0 ≤ s.wear ∧ s.wear ≤ 90) ∧ (1 ≤ life ∧ life ≤ 1000) ∧ lifeR L site made life = max (life * (100 - s.wear) / 100) 1 := by
  have hf' := hf
  unfold lifeFault at hf'
  split at hf'
  · rename_i hc; exact absurd hf' hc
  · rename_i hc
    split at hf'
    · cases hf'
    · rename_i h2
      split at hf'
      · cases hf'
      · rename_i h3
        obtain ⟨X, rfl⟩ : ∃ X : Nat, site = X := ⟨site.toNat, by omega⟩
        have hXL : X < L.length := by omega
        obtain ⟨s, hs⟩ : ∃ s, L[X]? = some s := ⟨_, List.getElem?_eq_getElem hXL⟩
        obtain ⟨b, o, rfl, hsite⟩ := h1 X s hs
        refine ⟨X, s, b, o, rfl, hXL, rfl, hsite, (sites_nums (by simpa using hc) s (List.mem_of_getElem? hs)).2, by omega, ?_⟩
        unfold lifeR lifeV wearAt
        rw [if_pos hf, Int.toNat_natCast, hs]; rfl
theorem worstR_len (L : List SiteD) (ch : List Int) (count : Int) : (worstR L ch count).1.length ≤ 12 := by
  unfold worstR
  split
  · obtain ⟨b, e1, e2⟩ := worstP_best L ch (min count.toNat (Plain.zonesF L).length) (Nat.min_le_right _ _)
    rw [e1]
    have := ((Plain.mem_combs _ _ _).1 e2.1).2
    have hz : (Plain.zonesF L).length ≤ 12 := zonesTo_len L 12
    simp only
    omega
  · simp
theorem law4_c (A C : Option Addr) (L : List SiteD) (ch : List Int) (c1 c2 : Nat) (count site made life : Int) (w : World) (hL : L.length ≤ c1) (hc1 : c1 ≤ maxLen) (hc : ch.length ≤ maxLen) (h1 : Sites w A L) (hg : Glob w) (h2 : Sl w .i64 C ch) :
    Calls Try.prog 4 #[.slice A L.length c1, .slice C ch.length c2, .int .i64 count, .int .i64 site, .agg #[.int .i64 made, .int .i64 life]] w (BRet w true) := by
  have HP := Lib.hid (fun w1 (x : Ext w w1) => placed_c w1 (hg.ext x))
  have HW := Lib.hid (fun w1 (x : Ext w w1) => Worst_c A C L ch c1 c2 count w1 hL hc (h1.ext x) (hg.ext x) (h2.ext x))
  have HLI := Lib.hid (fun w1 (x : Ext w w1) => Life_c A L c1 site made life w1 hL hc1 (h1.ext x) (hg.ext x))
  have HCF := Lib.hid (fun w1 (x : Ext w w1) => ChosenFault_c A C L ch c1 c2 w1 hc (by unfold maxLen at hc1; omega) (h1.ext x) (h2.ext x))
  have HSF := Lib.hid (fun w1 (x : Ext w w1) => SitesFault_c A L c1 w1 (by unfold maxLen at hc1; omega) (h1.ext x))
  have HWO := Lib.hid (fun w1 (x : Ext w w1) (hf : worstFault L ch count = (0, 0)) => worstOf_law A C L ch c1 c2 count w1 (h1.ext x) (h2.ext x) hf)
  have HLO := Lib.hid (fun (hf : lifeFault L site made life = (0, 0)) => life_site L site made life w A h1 hf)
  have HWC := Lib.hid (worstFault_cases L ch count)
  have HLC := Lib.hid (lifeFault_cases L site made life)
  have HW0 : Hid ((worstFault L ch count).1 ≠ 0 → worstR L ch count = ([], 0)) := fun h => by unfold worstR; rw [if_neg (by intro e; apply h; rw [e])]
  have HK1 := Lib.hid (worstFault_code L ch count)
  have HL0 : Hid ((lifeFault L site made life).1 ≠ 0 → lifeR L site made life = 0) := fun h => by unfold lifeR; rw [if_neg (by intro e; apply h; rw [e])]
  have HK2 := Lib.hid (lifeFault_code L site made life)
  have hwll : (worstR L ch count).1.length ≤ 12 := worstR_len L ch count
  have hlen : (L.length : Int) ≤ 9223372036854775807 := by unfold maxLen at hc1; omega
  generalize worstR L ch count = WR at *
  generalize lifeR L site made life = LR at *
  generalize worstFault L ch count = WF at *
  generalize lifeFault L site made life = LF at *
  generalize Plain.chosenF L ch = CF at *
  generalize Plain.sitesF L = SF at *
  obtain ⟨Wl, Wn⟩ := WR
  obtain ⟨wf1, wf2⟩ := WF
  obtain ⟨lf1, lf2⟩ := LF
  obtain ⟨cf1, cf2⟩ := CF
  obtain ⟨sf1, sf2⟩ := SF
  have HWC := Lib.hid (HWC.out cf1 cf2 rfl)
  have HLC := Lib.hid (HLC.out sf1 sf2 rfl)
  clear h1 h2 hg
  have HXB := Lib.hid ((Ext.refl w).alloc (.cells #[.int .i64 made, .int .i64 life] 43))
  have HMB : Hid ((w.alloc (.cells #[.int .i64 made, .int .i64 life] 43)).heap[w.heap.size]? = some (.cells #[.int .i64 made, .int .i64 life] 43 (0, 0))) := new_blk _ _
  go_enter Try.func4, Try.ntmps4
  go_upto_region 1 with (fail)
  go_cut [11, 12, 13] (fun s11 s12 s13 wx => LV wx s11 Wl ∧ s12 = .int .i64 Wn ∧ FV wx s13 (wf1, wf2) ∧ Ext w wx ∧ wx.heap[w.heap.size]? = some (.cells #[.int .i64 made, .int .i64 life] 43 (0, 0)))
  case first =>
    go_wp2_with (go_at_call 27; refine (HW.out _ HXB.out).mono ?_; rintro e w3 ⟨v3, rfl, ho3, hx3⟩; have HL := Lib.hid (own_lv ho3); have HX3 := Lib.hid (HXB.out.trans hx3); have HM3 := Lib.hid (ext_blk hx3 HMB.out); clear ho3 hx3)
    go_meet
    exact ⟨HL.out.ext ((Ext.refl _).alloc _), rfl, new_fv _ _ _, HX3.out.alloc _, ext_blk ((Ext.refl _).alloc _) HM3.out⟩
  case rest =>
    obtain ⟨⟨R11, d11, rfl, l11⟩, rfl, hf13, hxc, hmb⟩ := hcut
    have HL11 := Lib.hid l11
    have HF13 := Lib.hid hf13
    have HXC := Lib.hid hxc
    have HMB := Lib.hid hmb
    have m0 : wc.cell? ⟨w.heap.size, 0, none⟩ = some (.int .i64 made) := blk_cell hmb 0
    have m1 : wc.cell? ⟨w.heap.size, 1, none⟩ = some (.int .i64 life) := blk_cell hmb 1
    clear l11 hf13 hxc hmb HW HXB
    go_upto_region 2 with (fail)
    go_cut [14, 15] (fun s14 s15 wx => s14 = .int .i64 LR ∧ FV wx s15 (lf1, lf2) ∧ Ext wc wx)
    case first =>
      go_wp2_with (go_at_call 28; refine (HLI.out _ HXC.out).mono ?_; rintro e w3 ⟨rfl, hx3⟩; have HX3 := Lib.hid hx3; clear hx3)
      go_meet
      exact ⟨rfl, new_fv _ _ _, HX3.out.alloc _⟩
    case rest =>
      obtain ⟨rfl, hf15, hx2⟩ := hcut
      have HF15 := Lib.hid hf15
      have HL11 := Lib.hid (HL11.out.ext hx2)
      have HF13 := Lib.hid (HF13.out.ext hx2)
      have HMB := Lib.hid (ext_blk hx2 HMB.out)
      have HXC := Lib.hid (HXC.out.trans hx2)
      clear hf15 hx2 HLI m0 m1
      obtain ⟨wa, rfl⟩ : ∃ x, x = wc := ⟨_, rfl⟩
      go_upto_region 3 with (fail)
      go_cut [16] (fun s16 wx => ∃ g, s16 = .pointer (some ⟨g, 0, none⟩) ∧ wa.heap.size ≤ g ∧ FBlk wx g (cf1, cf2) ∧ Ext wa wx)
      case first =>
        go_wp2_with (go_at_call 18; refine (HCF.out _ HXC.out).mono ?_; rintro e w3 ⟨rfl, hx3⟩; have HX3 := Lib.hid hx3; clear hx3)
        go_meet
        exact ⟨_, rfl, HX3.out.size, FBlk.new _ _ _, HX3.out.alloc _⟩
      case rest =>
        obtain ⟨g16, rfl, hg16, hb16, hx16⟩ := hcut
        have HB16 := Lib.hid hb16
        have HX16 := Lib.hid hx16
        have z0 := hb16.c0
        have z1 := hb16.c1
        have y0 := hb16.z 0
        have y1 := hb16.z 1
        have hglt : g16 < wc.heap.size := blk_lt hb16
        clear hb16 hx16 HCF
        simp only at z0 z1
        go_upto_region 4 with (fail)
        go_cut [46] (fun s46 wx => s46 = .bool (decide (cf1 = 0) && !inB count 0 12) ∧ Ext wc wx)
        case first =>
          by_cases e1 : cf1 = 0
          · have e1' : (cf1 == 0) = true := by simpa using e1
            cases e2 : inB count 0 12 with
            | true =>
              go_wp2_with (go_at_call 29; refine (In_c _ _ _ _).mono ?_; rintro e w' ⟨rfl, rfl⟩)
              go_meet
              exact ⟨by simp [e1, e2], Ext.refl _⟩
            | false =>
              go_wp2_with (go_at_call 29; refine (In_c _ _ _ _).mono ?_; rintro e w' ⟨rfl, rfl⟩)
              go_meet
              exact ⟨by simp [e1, e2], Ext.refl _⟩
          · have e1' : (cf1 == 0) = false := by simpa using e1
            go_wp2_with (go_at_call 29; refine (In_c _ _ _ _).mono ?_; rintro e w' ⟨rfl, rfl⟩)
            go_meet
            exact ⟨by simp [e1], Ext.refl _⟩
        case rest =>
          obtain ⟨rfl, hx0⟩ := hcut
          have HB16 := Lib.hid (HB16.out.ext hx0)
          have HX16 := Lib.hid (HX16.out.trans hx0)
          have z0 := HB16.out.c0
          have z1 := HB16.out.c1
          have y0 := HB16.out.z 0
          have y1 := HB16.out.z 1
          have hglt : g16 < wc.heap.size := blk_lt HB16.out
          clear hx0
          simp only at z0 z1
          go_upto_if 46 with (fail)
          go_cut [16] (fun s16 wx => s16 = .pointer (some ⟨g16, 0, none⟩) ∧ FBlk wx g16 (wf1, wf2) ∧ Ext wa wx)
          case first =>
            by_cases e1 : cf1 = 0 ∧ inB count 0 12 = false
            · have HWE := Lib.hid (HWC.out.trans (if_pos e1))
              have hb : (decide (cf1 = 0) && !inB count 0 12) = true := by simp [e1.1, e1.2]
              rw [hb]
              go_wp2_with (go_at_call 20; refine (At_c _ _ _).mono ?_; rintro e w3 ⟨rfl, rfl⟩)
              go_meet
              exact ⟨rfl, by rw [HWE.out]; exact (HB16.out.set 4 (-3)).alloc _, (HX16.out.set2at hg16 _ _).alloc _⟩
            · have HWE := Lib.hid (HWC.out.trans (if_neg e1))
              have hb : (decide (cf1 = 0) && !inB count 0 12) = false := by
                cases e2 : inB count 0 12 with
                | true => simp
                | false => simp; intro h; exact e1 ⟨h, e2⟩
              rw [hb]
              go_wp2_with fail
              go_meet
              exact ⟨rfl, by rw [HWE.out]; exact HB16.out, HX16.out⟩
          case rest =>
            obtain ⟨rfl, hb16, hx16⟩ := hcut
            have HF16 : Hid (FV wc (.pointer (some ⟨g16, 0, none⟩)) (wf1, wf2)) := ⟨_, rfl, hb16⟩
            have HF13 := Lib.hid (HF13.out.ext hx16)
            have HF15 := Lib.hid (HF15.out.ext hx16)
            have HL11 := Lib.hid (HL11.out.ext hx16)
            have HMB := Lib.hid (ext_blk hx16 HMB.out)
            have HXC := Lib.hid (HXC.out.trans hx16)
            clear hb16 hx16 HWC z0 z1 y0 y1 hglt hg16
            obtain ⟨wb, rfl⟩ : ∃ x, x = wc := ⟨_, rfl⟩
            go_upto_region 6 with (fail)
            go_cut [17] (fun s17 wx => ∃ g, s17 = .pointer (some ⟨g, 0, none⟩) ∧ wb.heap.size ≤ g ∧ FBlk wx g (sf1, sf2) ∧ Ext wb wx)
            case first =>
              go_wp2_with (go_at_call 17; refine (HSF.out _ HXC.out).mono ?_; rintro e w3 ⟨rfl, hx3⟩; have HX3 := Lib.hid hx3; clear hx3)
              go_meet
              exact ⟨_, rfl, HX3.out.size, FBlk.new _ _ _, HX3.out.alloc _⟩
            case rest =>
              obtain ⟨g17, rfl, hg17, hb17, hx17⟩ := hcut
              have HB17 := Lib.hid hb17
              have HX17 := Lib.hid hx17
              have z0 := hb17.c0
              clear hb17 hx17 HSF
              simp only at z0
              have hwl : IntKind.i64.wrap ((L.length : Int) - 1) = (L.length : Int) - 1 := IntWalk.i64_in _ (by omega)
              go_upto_region 7 with (fail)
              go_cut [60] (fun s60 wx => s60 = .bool (decide (sf1 = 0) && !inB site 0 ((L.length : Int) - 1)) ∧ Ext wc wx)
              case first =>
                by_cases e1 : sf1 = 0
                · have e1' : (sf1 == 0) = true := by simpa using e1
                  cases e2 : inB site 0 ((L.length : Int) - 1) with
                  | true =>
                    go_wp2_with (go_at_call 29; refine (In_c _ _ _ _).mono ?_; rintro e w' ⟨rfl, rfl⟩)
                    go_meet
                    exact ⟨by simp [e1, e2], Ext.refl _⟩
                  | false =>
                    go_wp2_with (go_at_call 29; refine (In_c _ _ _ _).mono ?_; rintro e w' ⟨rfl, rfl⟩)
                    go_meet
                    exact ⟨by simp [e1, e2], Ext.refl _⟩
                · have e1' : (sf1 == 0) = false := by simpa using e1
                  go_wp2_with (go_at_call 29; refine (In_c _ _ _ _).mono ?_; rintro e w' ⟨rfl, rfl⟩)
                  go_meet
                  exact ⟨by simp [e1], Ext.refl _⟩
              case rest =>
                obtain ⟨rfl, hx0⟩ := hcut
                have HB17 := Lib.hid (HB17.out.ext hx0)
                have HX17 := Lib.hid (HX17.out.trans hx0)
                have z0 := HB17.out.c0
                have z1 := HB17.out.c1
                have y0 := HB17.out.z 0
                have y1 := HB17.out.z 1
                have hglt : g17 < wc.heap.size := blk_lt HB17.out
                clear hx0
                simp only at z0 z1
                obtain ⟨⟨a1, a2⟩, ha⟩ : ∃ a : Int × Int, a = if sf1 = 0 ∧ inB site 0 ((L.length : Int) - 1) = false then (4, -2) else (sf1, sf2) := ⟨_, rfl⟩
                have HLF : Hid ((lf1, lf2) = if a1 = 0 ∧ (inB made 0 9999 && inB life 1 1000) = false then (4, -3) else (a1, a2)) := by
                  show _ = _
                  rw [HLC.out]
                  by_cases e1 : sf1 = 0 ∧ inB site 0 ((L.length : Int) - 1) = false
                  · rw [if_pos e1] at ha ⊢
                    injection ha with h1 h2
                    rw [h1, h2, if_neg (by simp)]
                  · rw [if_neg e1] at ha ⊢
                    injection ha with h1 h2
                    rw [h1, h2]
                have HA := Lib.hid ha
                clear ha
                go_upto_if 60 with (fail)
                go_cut [17] (fun s17 wx => s17 = .pointer (some ⟨g17, 0, none⟩) ∧ FBlk wx g17 (a1, a2) ∧ Ext wb wx)
                case first =>
                  by_cases e1 : sf1 = 0 ∧ inB site 0 ((L.length : Int) - 1) = false
                  · have HWE := Lib.hid (HA.out.trans (if_pos e1))
                    have hb : (decide (sf1 = 0) && !inB site 0 ((L.length : Int) - 1)) = true := by simp [e1.1, e1.2]
                    rw [hb]
                    go_wp2_with (go_at_call 20; refine (At_c _ _ _).mono ?_; rintro e w3 ⟨rfl, rfl⟩)
                    go_meet
                    exact ⟨rfl, by rw [HWE.out]; exact (HB17.out.set 4 (-2)).alloc _, (HX17.out.set2at hg17 _ _).alloc _⟩
                  · have HWE := Lib.hid (HA.out.trans (if_neg e1))
                    have hb : (decide (sf1 = 0) && !inB site 0 ((L.length : Int) - 1)) = false := by
                      cases e2 : inB site 0 ((L.length : Int) - 1) with
                      | true => simp
                      | false => simp; intro h; exact e1 ⟨h, e2⟩
                    rw [hb]
                    go_wp2_with fail
                    go_meet
                    exact ⟨rfl, by rw [HWE.out]; exact HB17.out, HX17.out⟩
                case rest =>
                  obtain ⟨rfl, hb17, hx17⟩ := hcut
                  have HB17 := Lib.hid hb17
                  have HX17 := Lib.hid hx17
                  have z0 := hb17.c0
                  have m0 : wc.cell? ⟨w.heap.size, 0, none⟩ = some (.int .i64 made) := blk_cell (ext_blk hx17 HMB.out) 0
                  have m1 : wc.cell? ⟨w.heap.size, 1, none⟩ = some (.int .i64 life) := blk_cell (ext_blk hx17 HMB.out) 1
                  clear hb17 hx17 z1 y0 y1 hglt
                  simp only at z0
                  go_upto_region 9 with (fail)
                  go_cut [69] (fun s69 wx => s69 = .bool (decide (a1 = 0) && !(inB made 0 9999 && inB life 1 1000)) ∧ Ext wc wx)
                  case first =>
                    by_cases e1 : a1 = 0
                    · have e1' : (a1 == 0) = true := by simpa using e1
                      cases e2 : (inB made 0 9999 && inB life 1 1000) with
                      | true =>
                        go_wp2_with (go_at_call 30; refine (MediumOk_c _ _ _).mono ?_; rintro e w3 ⟨rfl, hx3⟩; have HX3 := Lib.hid hx3; rw [e2]; clear hx3)
                        go_meet
                        exact ⟨by rw [e2]; simp [e1], HX3.out⟩
                      | false =>
                        go_wp2_with (go_at_call 30; refine (MediumOk_c _ _ _).mono ?_; rintro e w3 ⟨rfl, hx3⟩; have HX3 := Lib.hid hx3; rw [e2]; clear hx3)
                        go_meet
                        exact ⟨by rw [e2]; simp [e1], HX3.out⟩
                    · have e1' : (a1 == 0) = false := by simpa using e1
                      go_wp2_with fail
                      go_meet
                      exact ⟨by simp [e1], Ext.refl _⟩
                  case rest =>
                    obtain ⟨rfl, hx0⟩ := hcut
                    have HB17 := Lib.hid (HB17.out.ext hx0)
                    have HX17 := Lib.hid (HX17.out.trans hx0)
                    have z0 := HB17.out.c0
                    have z1 := HB17.out.c1
                    have y0 := HB17.out.z 0
                    have y1 := HB17.out.z 1
                    have hglt : g17 < wc.heap.size := blk_lt HB17.out
                    clear hx0 m0 m1
                    simp only at z0 z1
                    go_upto_if 69 with (fail)
                    go_cut [17] (fun s17 wx => s17 = .pointer (some ⟨g17, 0, none⟩) ∧ FBlk wx g17 (lf1, lf2) ∧ Ext wb wx)
                    case first =>
                      by_cases e1 : a1 = 0 ∧ (inB made 0 9999 && inB life 1 1000) = false
                      · have HWE := Lib.hid (HLF.out.trans (if_pos e1))
                        have hb : (decide (a1 = 0) && !(inB made 0 9999 && inB life 1 1000)) = true := by rw [e1.2]; simp [e1.1]
                        rw [hb]
                        go_wp2_with (go_at_call 20; refine (At_c _ _ _).mono ?_; rintro e w3 ⟨rfl, rfl⟩)
                        go_meet
                        exact ⟨rfl, by rw [HWE.out]; exact (HB17.out.set 4 (-3)).alloc _, (HX17.out.set2at hg17 _ _).alloc _⟩
                      · have HWE := Lib.hid (HLF.out.trans (if_neg e1))
                        have hb : (decide (a1 = 0) && !(inB made 0 9999 && inB life 1 1000)) = false := by
                          cases e2 : (inB made 0 9999 && inB life 1 1000) with
                          | true => simp
                          | false => simp; intro h; exact e1 ⟨h, e2⟩
                        rw [hb]
                        go_wp2_with fail
                        go_meet
                        exact ⟨rfl, by rw [HWE.out]; exact HB17.out, HX17.out⟩
                    case rest =>
                      obtain ⟨rfl, hb17, hx17⟩ := hcut
                      obtain ⟨g13, rfl, f13⟩ := HF13.out.ext hx17
                      obtain ⟨g15, rfl, f15⟩ := HF15.out.ext hx17
                      obtain ⟨g16', hgg, f16⟩ := HF16.out.ext hx17
                      cases hgg
                      have HF13 := Lib.hid f13
                      have HF15 := Lib.hid f15
                      have HF16 := Lib.hid f16
                      have HF17 := Lib.hid hb17
                      have HL11 := Lib.hid (HL11.out.ext hx17)
                      have HMB := Lib.hid (ext_blk hx17 HMB.out)
                      have HXC := Lib.hid (HXC.out.trans hx17)
                      clear f13 f15 f16 hb17 hx17 z0 z1 y0 y1 hglt HLF HLC HA HB17 HX17
                      go_upto_region 14 with (go_at_call 21; refine (HP.out _ HXC.out).mono ?_; rintro e w5 ⟨rfl, hx5⟩; have t0 := (HF13.out.ext hx5).cells2; have t1 := (HF15.out.ext hx5).cells2; have t2 := (HF16.out.ext hx5).cells2; have t3 := (HF17.out.ext hx5).cells2; obtain ⟨t0, t0'⟩ := t0; obtain ⟨t1, t1'⟩ := t1; obtain ⟨t2, t2'⟩ := t2; obtain ⟨t3, t3'⟩ := t3; have HL5 := Lib.hid (HL11.out.ext hx5); have HM5 := Lib.hid (ext_blk hx5 HMB.out); have HX5 := Lib.hid (HXC.out.trans hx5); clear hx5)
                      go_upto_if 85 with (fail)
                      go_cut [18] (fun s18 wx => s18 = .int .i64 LR ∧ Ext w5 wx)
                      case first =>
                        by_cases e1 : lf1 = 0
                        · have hlf := HK2.out e1
                          obtain ⟨X, s, b, o, rfl, hXL, rfl, hsite, hwe, hli, hLR⟩ := HLO.out hlf
                          have hsite := hsite.ext HX5.out
                          obtain ⟨nm, n1, n2, n3⟩ := hsite.name
                          obtain ⟨Z, zc, k1, _, _, _, _⟩ := hsite.zones
                          have k4 := hsite.cost
                          have k5 := hsite.wear
                          have m1 : w5.cell? ⟨w.heap.size, 1, none⟩ = some (.int .i64 life) := blk_cell HM5.out 1
                          have HLO2 := Lib.hid (fun w' => LifeOf_c nm Z s.zones.length zc s.cost s.wear life w' hwe hli)
                          rw [← hLR] at HLO2
                          have e1' : (lf1 == 0) = true := by simpa using e1
                          have hX0 : (0 : Int) ≤ (X : Int) := by omega
                          have hX1 : (X : Int) < (L.length : Int) := by omega
                          clear hlf hsite n2 n3 hLR hwe hli
                          go_wp2_with fail
                          go_region_held3 (fun w' => w'.cell? ⟨b, o + X * 4, none⟩ = some (.string nm) ∧ w'.cell? ⟨b, o + X * 4 + 1, none⟩ = some (.slice Z s.zones.length zc) ∧ w'.cell? ⟨b, o + X * 4 + 2, none⟩ = some (.int .i64 s.cost) ∧ w'.cell? ⟨b, o + X * 4 + 3, none⟩ = some (.int .i64 s.wear) ∧ w'.cell? ⟨w.heap.size, 1, none⟩ = some (.int .i64 life)) (go_keep) ((go_at_call 31; refine (HLO2.out _).mono ?_; rintro e w7 ⟨rfl, hx7⟩; have HX7 := Lib.hid ((Ext.refl w5).drew.trans hx7); have y1 := hx7.cell n1; have y2 := hx7.cell k1; have y3 := hx7.cell k4; have y4 := hx7.cell k5; have y5 := hx7.cell m1; clear hx7))
                          all_goals go_wp2_with fail
                          all_goals go_meet
                          all_goals exact ⟨rfl, HX7.out⟩
                        · have e1' : (lf1 == 0) = false := by simpa using e1
                          have hL0 := HL0.out e1
                          subst hL0
                          go_wp2_with fail
                          go_meet
                          exact ⟨rfl, Ext.refl _⟩
                      case rest =>
                        obtain ⟨rfl, hx6⟩ := hcut
                        have t2 := hx6.cell t2
                        have HL6 := Lib.hid (HL5.out.ext hx6)
                        have HX6 := Lib.hid (HX5.out.trans hx6)
                        clear hx6 t0 t0' t1 t1' t2' t3 t3'
                        by_cases e1 : wf1 = 0
                        · have hwf := HK1.out e1
                          have HWO2 := Lib.hid (HWO.out _ HX6.out hwf)
                          subst e1
                          clear hwf
                          go_wp2_with (first | (go_at_call 32; refine HWO2.out.mono ?_; rintro e w8 ⟨v8, rfl, ⟨R19, d19, rfl, l19⟩, hx8⟩; have HX8 := Lib.hid (HX6.out.trans hx8); have HIN := Lib.hid (ints_same R11 R19 Wl Wl.length d11 d19 w8 rfl (by unfold maxLen; omega) (HL6.out.ext hx8) l19); clear hx8 l19) | (go_at_call 24; refine HIN.out.mono ?_; rintro e w9 ⟨rfl, hx9⟩; have HX9 := Lib.hid (HX8.out.trans hx9); clear hx9))
                          go_ret
                          exact ⟨rfl, HX9.out⟩
                        · have e1' : (wf1 != 0) = true := by simpa using e1
                          have hw0 := HW0.out e1
                          injection hw0 with hw1 hw2
                          subst hw1
                          subst hw2
                          go_wp2
                          go_ret
                          exact ⟨rfl, HX6.out⟩
end Go.Proofs.Ytbhcaniopdgjkaa
