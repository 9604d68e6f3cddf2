import Derived.Test.YtbhcaniopdgjkaaMg25
import Derived.Test.YtbhcaniopdgjkaaMg24
namespace Go.Proofs.Ytbhcaniopdgjkaa
open Go Go.Proofs Go.RowKit
set_option maxHeartbeats 1600000
set_option maxRecDepth 100000
def withoutF (a b : List Int) : List Int := a.filter fun x => !hasB b x
theorem without_step {a b : List Int} {k : Nat} {x : Int} (hx : a[k]? = some x) : withoutF (a.take (k + 1)) b = withoutF (a.take k) b ++ (if hasB b x = true then [] else [x]) := by
  obtain ⟨h1, rfl⟩ := List.getElem?_eq_some_iff.1 hx
  unfold withoutF
  rw [List.take_succ_eq_append_getElem h1, List.filter_append]
  congr 1
  cases h : hasB b a[k] <;> simp [h]
theorem Without_c (A B : Option Addr) (a b : List Int) (c d : Nat) (w : World) (ha : a.length ≤ 100000) (hb : b.length ≤ maxLen) (h1 : Sl w .i64 A a) (h2 : Sl w .i64 B b) :
    Calls Try.prog 44 #[.slice A a.length c, .slice B b.length d] w (LRet w (withoutF a b)) := by
  have HB := Lib.hid (fun n W (x : Ext w W) => Has_c B b d n W hb (h2.ext x))
  obtain ⟨i0, hi, hz0, hz1, hz2⟩ := info_parts info3
  have HI := Lib.hid hi
  have HZ0 := Lib.hid hz0
  have HZ1 := Lib.hid hz1
  have HZ2 := Lib.hid hz2
  clear hb h2 hi hz0 hz1 hz2
  obtain ⟨q, hq⟩ : ∃ q, q = a.length := ⟨_, rfl⟩
  rw [← hq] at ha ⊢
  have HQ := Lib.hid hq
  obtain ⟨lb, hlb⟩ : ∃ lb, lb = b.length := ⟨_, rfl⟩
  rw [← hlb] at HB ⊢
  clear hq hlb
  go_enter Try.func44, Try.ntmps44
  go_wp2
  go_loopw [5, 6] (fun v i wr => ∃ k : Nat, k ≤ q ∧ i = .int .i64 k ∧ FillI w wr (withoutF (a.take k) b) v) (fun _ i _ => q - (intOf i).toNat)
  case atStart => exact ⟨0, Nat.zero_le _, rfl, fill0 w⟩
  case round =>
    obtain ⟨k, hk, rfl, hr⟩ := hrel
    have HR := Lib.hid hr
    obtain ⟨VA, vc, rfl, _, _, _, _⟩ := own_sl hr.own
    have hlw := hr.x.size
    clear hr
    have hlen : (withoutF (a.take k) b).length ≤ k := Nat.le_trans (List.length_filter_le _ _) (by rw [List.length_take]; omega)
    obtain ⟨M, hM⟩ : ∃ M, withoutF (a.take k) b = M := ⟨_, rfl⟩
    rw [hM] at HR hlen
    rw [hM]
    have HMM := Lib.hid hM
    clear hM
    by_cases hlt : k < q
    · have hkl : k < a.length := by rw [← HQ.out]; exact hlt
      obtain ⟨bb, o, x, rfl, hx, hc⟩ := h1.at2 hkl
      have hc' := HR.out.x.cell hc
      have HS := Lib.hid (without_step (b := b) hx.out)
      have HBK := Lib.hid (HB.out x wr HR.out.x)
      clear hkl hc
      cases hbk : hasB b x with
      | true =>
        rw [hbk] at HBK HS
        have HS2 : Hid (withoutF (a.take (k + 1)) b = M) := by show _ = M; rw [HS.out, HMM.out]; simp
        clear hbk
        go_wp2_with (go_at_call 34; refine HBK.out.mono ?_; rintro e w' ⟨rfl, rfl⟩)
        refine ⟨⟨k + 1, by omega, by go_num, by rw [HS2.out]; exact HR.out⟩, by simp [intOf]; omega⟩
      | false =>
        rw [hbk] at HBK HS
        have HS2 : Hid (withoutF (a.take (k + 1)) b = M ++ [x]) := by show _ = M ++ [x]; rw [HS.out, HMM.out]; simp
        clear hbk
        go_wp2_with (first | (go_at_call 34; refine HBK.out.mono ?_; rintro e w' ⟨rfl, rfl⟩) | (at_builtin; refine wpList_append_sl rfl _ _ 23 rfl w.heap.size 3 i0 (.int .i64 0) 1 8 Try.underlying23 HI.out HZ0.out HZ1.out HZ2.out rfl (by decide) _ M.length (M.map (Value.int .i64)) rfl (HR.out.own.alloc _) (some ⟨wr.heap.size, 0, none⟩) 1 1 [.int .i64 x] rfl (slc_new wr [.int .i64 x] 3) rfl (by simp [Value.oneCell']) (by unfold maxLen; omega) (by omega) (by simp; omega) ?_; intro v3 w3 ho3 hg3 _h3; have HN3 := Lib.hid (HR.out.add ho3 hg3); obtain ⟨A3, c3', rfl, _, _, _, _⟩ := own_sl ho3; clear ho3 hg3 _h3))
        refine ⟨⟨k + 1, by omega, by go_num, by rw [HS2.out]; exact HN3.out⟩, by simp [intOf]; omega⟩
    · have HE : Hid (withoutF a b = M) := by
        show _ = M
        rw [← HMM.out, List.take_of_length_le (by rw [← HQ.out]; omega)]
      go_wp2
      go_ret
      exact ⟨_, rfl, by rw [HE.out]; exact HR.out.own, HR.out.x⟩
end Go.Proofs.Ytbhcaniopdgjkaa
namespace Go.Proofs.Ytbhcaniopdgjkaa
open Go Go.Proofs Go.RowKit
set_option maxHeartbeats 1600000
set_option maxRecDepth 100000
def lexTo (a b : List Int) (k : Nat) : Prop := Plain.lexB a b = Plain.lexB (a.drop k) (b.drop k)
theorem lex_ne {a b : List Int} {k : Nat} {x y : Int} (h : lexTo a b k) (hx : a[k]? = some x) (hy : b[k]? = some y) (hn : x ≠ y) : Plain.lexB a b = decide (x < y) := by
  obtain ⟨h1, rfl⟩ := List.getElem?_eq_some_iff.1 hx
  obtain ⟨h2, rfl⟩ := List.getElem?_eq_some_iff.1 hy
  rw [h, List.drop_eq_getElem_cons h1, List.drop_eq_getElem_cons h2, Plain.lexB, if_neg hn]
theorem lex_next {a b : List Int} {k : Nat} {x : Int} (h : lexTo a b k) (hx : a[k]? = some x) (hy : b[k]? = some x) : lexTo a b (k + 1) := by
  obtain ⟨h1, e1⟩ := List.getElem?_eq_some_iff.1 hx
  obtain ⟨h2, e2⟩ := List.getElem?_eq_some_iff.1 hy
  unfold lexTo
  rw [h, List.drop_eq_getElem_cons h1, List.drop_eq_getElem_cons h2, Plain.lexB, if_pos (by rw [e1, e2])]
theorem lex_end {a b : List Int} {k : Nat} (h : lexTo a b k) (hk : k ≤ a.length) (hk' : k ≤ b.length) (he : a.length ≤ k ∨ b.length ≤ k) : Plain.lexB a b = decide ((a.length : Int) < (b.length : Int)) := by
  rw [h]
  rcases Nat.lt_or_ge k b.length with q | q
  · have : a.length = k := by omega
    rw [List.drop_of_length_le (Nat.le_of_eq this), List.drop_eq_getElem_cons q, decide_eq_true (by omega)]
    rfl
  · rw [List.drop_of_length_le q, decide_eq_false (by omega)]
    cases a.drop k <;> rfl
theorem lesser_c (A B : Option Addr) (a b : List Int) (c d : Nat) (w : World) (ha : a.length ≤ maxLen) (_hb : b.length ≤ maxLen) (h1 : Sl w .i64 A a) (h2 : Sl w .i64 B b) :
    Calls Try.prog 63 #[.slice A a.length c, .slice B b.length d] w fun e w' => e = .returned (.bool (Plain.lexB a b)) ∧ ∃ m, w' = w.drewN m := by
  unfold maxLen at ha
  obtain ⟨r, hr⟩ : ∃ r, Plain.lexB a b = r := ⟨_, rfl⟩
  rw [hr]
  have HRR := Lib.hid hr
  obtain ⟨p, hp⟩ : ∃ p, p = a.length := ⟨_, rfl⟩
  obtain ⟨q, hq⟩ : ∃ q, q = b.length := ⟨_, rfl⟩
  rw [← hp] at ha ⊢
  rw [← hq]
  have HP := Lib.hid hp
  have HQ := Lib.hid hq
  clear hp hq hr
  go_enter Try.func63, Try.ntmps63
  go_wp2
  go_loopw [5] (fun i wr => ∃ k m : Nat, k ≤ p ∧ k ≤ q ∧ i = .int .i64 k ∧ lexTo a b k ∧ wr = w.drewN m) (fun i _ => p - (intOf i).toNat)
  case atStart => exact ⟨0, 0, Nat.zero_le _, Nat.zero_le _, rfl, rfl, rfl⟩
  case round =>
    obtain ⟨k, m, hk, hkq, rfl, hr, rfl⟩ := hrel
    have HR := Lib.hid hr
    clear hr
    by_cases hlt : k < p
    · by_cases hltq : k < q
      · obtain ⟨b1, o1, x, rfl, hx, hc1⟩ := h1.at2 (show k < a.length by rw [← HP.out]; exact hlt)
        obtain ⟨b2, o2, y, rfl, hy, hc2⟩ := h2.at2 (show k < b.length by rw [← HQ.out]; exact hltq)
        by_cases hne : x = y
        · subst hne
          have HN := Lib.hid (lex_next HR.out hx.out hy.out)
          go_wp2
          go_quiet (fail)
          go_wp2
          refine ⟨⟨k + 1, _, by omega, by omega, by go_num, HN.out, rfl⟩, by simp [intOf]; omega⟩
        · have f1 : (x != y) = true := by simpa using hne
          have HC := Lib.hid ((lex_ne HR.out hx.out hy.out hne).symm.trans HRR.out)
          clear hne
          go_wp2
          go_quiet (fail)
          go_wp2
          go_quiet (fail)
          go_wp2
          go_ret
          exact ⟨ret_bool HC.out, _, by first | rfl | exact World.drewN_drewN _ _ _ | (rw [World.drewN_drewN, World.drewN_drewN])⟩
      · have HC := Lib.hid ((lex_end HR.out (by rw [← HP.out]; omega) (by rw [← HQ.out]; omega) (.inr (by rw [← HQ.out]; omega))).symm.trans HRR.out)
        rw [← HP.out, ← HQ.out] at HC
        go_wp2
        go_ret
        exact ⟨ret_bool (by first | exact HC.out | (rw [← HC.out]; simp)), _, rfl⟩
    · have HC := Lib.hid ((lex_end HR.out (by rw [← HP.out]; omega) (by rw [← HQ.out]; omega) (.inl (by rw [← HP.out]; omega))).symm.trans HRR.out)
      rw [← HP.out, ← HQ.out] at HC
      go_wp2
      go_ret
      exact ⟨ret_bool (by first | exact HC.out | (rw [← HC.out]; simp)), _, rfl⟩
end Go.Proofs.Ytbhcaniopdgjkaa
namespace Go.Proofs.Ytbhcaniopdgjkaa
open Go Go.Proofs Go.RowKit
open Plain (SiteD)
set_option maxHeartbeats 1600000
set_option maxRecDepth 100000
def costAt (L : List SiteD) (i : Int) : Int := (L[i.toNat]?.map SiteD.cost).getD 0
def costF (L : List SiteD) : List Int → Int
  | [] => 0
  | i :: r => costAt L i + costF L r
theorem cost_append (L : List SiteD) : ∀ (a b : List Int), costF L (a ++ b) = costF L a + costF L b
  | [], b => by simp [costF]
  | i :: r, b => by rw [List.cons_append, costF, costF, cost_append L r b]; omega
theorem cost_step {L : List SiteD} {ch : List Int} {k : Nat} {i : Int} (h : ch[k]? = some i) : costF L (ch.take (k + 1)) = costF L (ch.take k) + costAt L i := by
  obtain ⟨h1, rfl⟩ := List.getElem?_eq_some_iff.1 h
  rw [List.take_succ_eq_append_getElem h1, cost_append]
  simp [costF]
theorem cost_bound {L : List SiteD} (hL : ∀ i, 0 ≤ costAt L i ∧ costAt L i ≤ 1000000) : ∀ (ch : List Int), 0 ≤ costF L ch ∧ costF L ch ≤ 1000000 * ch.length
  | [] => by simp [costF]
  | i :: r => by
    have h1 := hL i
    have h2 := cost_bound hL r
    rw [costF, List.length_cons]
    constructor <;> omega
theorem CostOf_c (A C : Option Addr) (L : List SiteD) (ch : List Int) (c1 c2 : Nat) (w : World) (hc : ch.length ≤ 1000) (hb : ∀ i, 0 ≤ costAt L i ∧ costAt L i ≤ 1000000) (h1 : Sites w A L) (h2 : Sl w .i64 C ch) (hv : ∀ i ∈ ch, 0 ≤ i ∧ i < L.length) :
    Calls Try.prog 73 #[.slice A L.length c1, .slice C ch.length c2] w fun e w' => e = .returned (.int .i64 (costF L ch)) ∧ w = w' := by
  obtain ⟨q, hq⟩ : ∃ q, q = ch.length := ⟨_, rfl⟩
  rw [← hq] at hc ⊢
  have HQ := Lib.hid hq
  have HV := Lib.hid hv
  have HB := Lib.hid hb
  obtain ⟨N, hN⟩ : ∃ N, N = L.length := ⟨_, rfl⟩
  rw [← hN]
  have HN := Lib.hid hN
  have H1 := Lib.hid h1
  clear hq hv hN h1 hb
  go_enter Try.func73, Try.ntmps73
  go_wp2
  go_loop [5, 6] (fun p i => ∃ k : Nat, k ≤ q ∧ i = .int .i64 k ∧ p = .int .i64 (costF L (ch.take k))) (fun _ i => q - (intOf i).toNat)
  case atStart => exact ⟨0, Nat.zero_le _, rfl, rfl⟩
  case round =>
    obtain ⟨k, hk, rfl, rfl⟩ := hrel
    have hbd := cost_bound HB.out (ch.take k)
    rw [List.length_take] at hbd
    by_cases hlt : k < q
    · have hkl : k < ch.length := by rw [← HQ.out]; exact hlt
      obtain ⟨b, o, x, rfl, hx, ha⟩ := h2.at2 hkl
      obtain ⟨x0, x1⟩ := HV.out x (List.mem_of_getElem? hx.out)
      obtain ⟨X, rfl⟩ : ∃ X : Nat, x = X := ⟨x.toNat, by omega⟩
      have hXL : X < L.length := by omega
      obtain ⟨s, hs⟩ : ∃ s, L[X]? = some s := ⟨_, List.getElem?_eq_getElem hXL⟩
      obtain ⟨b2, o2, rfl, hsite⟩ := H1.out X s hs
      have z1 := hsite.cost
      have hXN : X < N := by rw [HN.out]; exact hXL
      have hcs : costAt L (X : Int) = s.cost := by unfold costAt; rw [Int.toNat_natCast, hs]; rfl
      have HS := Lib.hid (cost_step (L := L) hx.out)
      have hcb := HB.out (X : Int)
      rw [hcs] at hcb HS
      obtain ⟨S, hS⟩ : ∃ S, costF L (ch.take k) = S := ⟨_, rfl⟩
      rw [hS] at hbd HS
      rw [hS]
      obtain ⟨s0, s1⟩ := hbd
      obtain ⟨t0, t1⟩ := hcb
      have s2 : S ≤ 1000000000 := by omega
      clear hkl hXL hsite hs hcs hS s1
      go_wp2
      go_round
      case rel => exact ⟨k + 1, by omega, by go_num, by rw [HS.out]⟩
      case measure => simp [intOf]; omega
    · have HE : Hid (costF L ch = costF L (ch.take k)) := by
        show _ = _
        rw [List.take_of_length_le (by rw [← HQ.out]; omega)]
      go_wp2
      go_ret
      exact ⟨ret_int HE.out.symm, rfl⟩
end Go.Proofs.Ytbhcaniopdgjkaa
namespace Go.Proofs.Ytbhcaniopdgjkaa
open Go Go.Proofs Go.RowKit
open Plain (SiteD)
set_option maxHeartbeats 1000000
set_option maxRecDepth 100000
theorem leftFault_code (L : List SiteD) (ch lost : List Int) (h : (leftFault L ch lost).1 = 0) : leftFault L ch lost = (0, 0) := by
  unfold leftFault at *
  split at h
  · rename_i hc; rw [if_pos hc]; exact chosenF_code L ch h
  · rename_i hc
    rw [if_neg hc]
    split at h
    · rename_i h2; exact absurd h h2
    · rename_i h2; rw [if_neg h2]
theorem leftFault_ok {L : List SiteD} {ch lost : List Int} (h : leftFault L ch lost = (0, 0)) : Plain.chosenF L ch = (0, 0) ∧ Plain.risingC lost 12 = 0 := by
  unfold leftFault at h
  split at h
  · rename_i hc; exact absurd h hc
  · rename_i hc
    split at h
    · rename_i h2; injection h with h3; exact absurd h3 h2
    · rename_i h2; exact ⟨by simpa using hc, by simpa using h2⟩
def leftR (L : List SiteD) (ch lost : List Int) : List Int := if leftFault L ch lost = (0, 0) then Plain.leftF L ch lost else []
theorem leftR_len (L : List SiteD) (ch lost : List Int) : (leftR L ch lost).length ≤ ch.length := by
  unfold leftR
  split
  · exact List.length_filter_le _ _
  · simp
/-- The law of losses that add up. -/
theorem losses_law (L : List SiteD) (ch lost more : List Int) (h1 : leftFault L ch lost = (0, 0)) (h2 : leftFault L (leftR L ch lost) more = (0, 0)) :
    leftFault L ch (Plain.mergedF lost more 12) = (0, 0) ∧ leftR L (leftR L ch lost) more = leftR L ch (Plain.mergedF lost more 12) := by
  obtain ⟨a1, a2⟩ := leftFault_ok h1
  obtain ⟨b1, b2⟩ := leftFault_ok h2
  have h3 : leftFault L ch (Plain.mergedF lost more 12) = (0, 0) := by
    unfold leftFault
    rw [if_neg (by simpa using a1), if_neg (by simpa using Plain.merged_rising lost more 12)]
  refine ⟨h3, ?_⟩
  rw [show leftR L (leftR L ch lost) more = Plain.leftF L (leftR L ch lost) more from by unfold leftR at h2 ⊢; rw [if_pos h2], show leftR L ch (Plain.mergedF lost more 12) = Plain.leftF L ch (Plain.mergedF lost more 12) from by unfold leftR; rw [if_pos h3]]
  rw [show leftR L ch lost = Plain.leftF L ch lost from by unfold leftR; rw [if_pos h1]]
  exact Plain.left_merged L ch lost more a2 b2
theorem LeftX_c (A C D : Option Addr) (L : List SiteD) (ch lost : List Int) (c1 c2 c3 : Nat) (w : World) (hL : L.length ≤ c1) (hc : ch.length ≤ maxLen) (hd : lost.length ≤ maxLen) (h1 : Sites w A L) (hg : Glob w) (h2 : Sl w .i64 C ch) (h3 : Sl w .i64 D lost) :
    Calls Try.prog 14 #[.slice A L.length c1, .slice C ch.length c2, .slice D lost.length c3] w (LFRet w (leftR L ch lost) (leftFault L ch lost)) := Left_c A C D L ch lost c1 c2 c3 w hL hc hd h1 hg h2 h3
theorem law6_c (A C D E : Option Addr) (L : List SiteD) (ch lost more : List Int) (c1 c2 c3 c4 : Nat) (w : World) (hL : L.length ≤ c1) (hc : ch.length ≤ maxLen) (hd : lost.length ≤ maxLen) (he : more.length ≤ maxLen) (h1 : Sites w A L) (hg : Glob w) (h2 : Sl w .i64 C ch) (h3 : Sl w .i64 D lost) (h4 : Sl w .i64 E more) :
    Calls Try.prog 6 #[.slice A L.length c1, .slice C ch.length c2, .slice D lost.length c3, .slice E more.length c4] w (BRet w true) := by
  have HP := Lib.hid (placed_c w hg)
  have HC1 := Lib.hid (fun w1 (x : Ext w w1) => LeftX_c A C D L ch lost c1 c2 c3 w1 hL hc hd (h1.ext x) (hg.ext x) (h2.ext x) (h3.ext x))
  have HC2 := Lib.hid (fun w1 (x : Ext w w1) R c (h : Sl w1 .i64 R (leftR L ch lost)) => LeftX_c A R E L (leftR L ch lost) more c1 c c4 w1 hL (Nat.le_trans (leftR_len _ _ _) hc) he (h1.ext x) (hg.ext x) h (h4.ext x))
  have HCM := Lib.hid (fun w1 (x : Ext w w1) => Merged_c D E lost more c3 c4 12 w1 hd he (by omega) (h3.ext x) (h4.ext x))
  have HC3 := Lib.hid (fun w1 (x : Ext w w1) R c (h : Sl w1 .i64 R (Plain.mergedF lost more 12)) => LeftX_c A C R L ch (Plain.mergedF lost more 12) c1 c2 c w1 hL hc (Nat.le_trans (merged_len _ _ _) (by unfold maxLen; omega)) (h1.ext x) (hg.ext x) (h2.ext x) h)
  have HLAW := Lib.hid (losses_law L ch lost more)
  have HLN := Lib.hid (leftR_len L ch lost)
  have HNIL : Hid (leftFault L ch lost ≠ (0, 0) → leftR L ch lost = []) := fun h => by unfold leftR; rw [if_neg h]
  have HLB : Hid ((leftR L (leftR L ch lost) more).length ≤ maxLen) := Nat.le_trans (leftR_len _ _ _) (Nat.le_trans (leftR_len _ _ _) hc)
  have HK1 := Lib.hid (leftFault_code L ch lost)
  have HK2 := Lib.hid (leftFault_code L (leftR L ch lost) more)
  generalize leftR L ch lost = a at *
  generalize hB : Plain.mergedF lost more 12 = B at *
  generalize leftR L a more = b at *
  generalize leftR L ch B = c at *
  generalize leftFault L ch lost = f at *
  generalize leftFault L a more = g at *
  generalize leftFault L ch B = h at *
  obtain ⟨f1, f2⟩ := f
  obtain ⟨g1, g2⟩ := g
  obtain ⟨k1, k2⟩ := h
  clear h1 h2 h3 h4 hg hB
  go_enter Try.func6, Try.ntmps6
  go_upto_region 3 with (first | (go_at_call 21; refine HP.out.mono ?_; rintro e w1 ⟨rfl, hx⟩; have HX1 := Lib.hid hx; clear hx))
  go_cut [9, 10] (fun s9 s10 wx => LV wx s9 a ∧ FV wx s10 (f1, f2) ∧ Ext w wx)
  case first =>
    go_wp2_with (go_at_call 14; refine (HC1.out _ HX1.out).mono ?_; rintro e w3 ⟨v3, rfl, ho3, hx3⟩; have HL := Lib.hid (own_lv ho3); have HX3 := Lib.hid (HX1.out.trans hx3); clear ho3 hx3)
    go_meet
    exact ⟨HL.out.ext ((Ext.refl _).alloc _), new_fv _ _ _, HX3.out.alloc _⟩
  case rest =>
    obtain ⟨⟨R9, d9, rfl, l9⟩, hf10, hxc⟩ := hcut
    have HL9 := Lib.hid l9
    have HF10 := Lib.hid hf10
    have HXC := Lib.hid hxc
    clear l9 hf10 hxc HC1 HP
    go_upto_region 4 with (fail)
    go_cut [11, 12] (fun s11 s12 wx => LV wx s11 b ∧ FV wx s12 (g1, g2) ∧ Ext wc wx)
    case first =>
      go_wp2_with (go_at_call 14; refine (HC2.out _ HXC.out _ _ HL9.out).mono ?_; rintro e w3 ⟨v3, rfl, ho3, hx3⟩; have HL := Lib.hid (own_lv ho3); have HX3 := Lib.hid hx3; clear ho3 hx3)
      go_meet
      exact ⟨HL.out.ext ((Ext.refl _).alloc _), new_fv _ _ _, HX3.out.alloc _⟩
    case rest =>
      obtain ⟨⟨R11, d11, rfl, l11⟩, hf12, hx2⟩ := hcut
      have HL11 := Lib.hid l11
      have HF12 := Lib.hid hf12
      have HF10 := Lib.hid (HF10.out.ext hx2)
      have HXC := Lib.hid (HXC.out.trans hx2)
      clear l11 hf12 hx2 HC2
      go_upto_region 6 with (go_at_call 33; refine (HCM.out _ HXC.out).mono ?_; rintro e w5 ⟨v5, rfl, ho5, hx5⟩; have HO5 := Lib.hid (own_lv ho5); obtain ⟨R13, d13, rfl, _, _, _, l13⟩ := own_sl ho5; have HL13 := Lib.hid l13; have HX5 := Lib.hid hx5; clear ho5 hx5 l13)
      go_cut [14, 15] (fun s14 s15 wx => LV wx s14 c ∧ FV wx s15 (k1, k2) ∧ Ext w5 wx)
      case first =>
        go_wp2_with (go_at_call 14; refine (HC3.out _ (HXC.out.trans HX5.out) _ _ HL13.out).mono ?_; rintro e w3 ⟨v3, rfl, ho3, hx3⟩; have HL := Lib.hid (own_lv ho3); have HX3 := Lib.hid hx3; clear ho3 hx3)
        go_meet
        exact ⟨HL.out.ext ((Ext.refl _).alloc _), new_fv _ _ _, HX3.out.alloc _⟩
      case rest =>
        obtain ⟨⟨R14, d14, rfl, l14⟩, hf15, hx2⟩ := hcut
        have HL14 := Lib.hid l14
        have hl11 := (HL11.out.ext HX5.out).ext hx2
        obtain ⟨q10, rfl, f10⟩ := (HF10.out.ext HX5.out).ext hx2
        obtain ⟨q12, rfl, f12⟩ := (HF12.out.ext HX5.out).ext hx2
        obtain ⟨q15, rfl, f15⟩ := hf15
        have HL11' := Lib.hid hl11
        have HXF := Lib.hid ((HXC.out.trans HX5.out).trans hx2)
        have z10 := f10.c0
        have z12 := f12.c0
        have z15 := f15.c0
        clear l14 hl11 f10 f12 f15 hx2 HC3 HCM
        simp only at z10 z12 z15
        by_cases e1 : f1 = 0
        · have hf0 := HK1.out e1
          subst e1
          by_cases e2 : g1 = 0
          · have hg0 := HK2.out e2
            subst e2
            obtain ⟨hk0, hbc⟩ := HLAW.out hf0 hg0
            injection hk0 with e3 e4
            subst e3
            subst hbc
            have HIN := Lib.hid (ints_same R11 R14 b b.length d11 d14 wc rfl HLB.out HL11'.out HL14.out)
            clear hf0 hg0 e4
            go_wp2_with (go_at_call 24; refine HIN.out.mono ?_; rintro e w9 ⟨rfl, hx9⟩; have HX9 := Lib.hid (HXF.out.trans hx9); clear hx9)
            go_ret
            exact ⟨rfl, HX9.out⟩
          · have e2' : (g1 != 0) = true := by simpa using e2
            go_wp2
            go_ret
            exact ⟨rfl, HXF.out⟩
        · have ha := HNIL.out (by intro h; apply e1; injection h)
          subst ha
          have e1' : (f1 != 0) = true := by simpa using e1
          have e1'' : (f1 == 0) = false := by simpa using e1
          go_wp2
          go_ret
          exact ⟨rfl, HXF.out⟩
end Go.Proofs.Ytbhcaniopdgjkaa
