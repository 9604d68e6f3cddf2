import Derived.Test.YtbhcaniopdgjkaaMg6
import Derived.Test.YtbhcaniopdgjkaaMg10
namespace Plain
theorem scanCheap_snoc (cost : List Int → Int) (prop : List Int → Bool) : ∀ (cs : List (List Int)) (c : List Int) (st : Option (List Int)), scanCheap cost prop (cs ++ [c]) st = scanCheap cost prop [c] (scanCheap cost prop cs st)
  | [], _, _ => rfl
  | d :: cs, c, none => by rw [List.cons_append, scanCheap, scanCheap_snoc cost prop cs c]; rfl
  | d :: cs, c, some b => by rw [List.cons_append, scanCheap, scanCheap_snoc cost prop cs c]; rfl
/-- Better than what has been found so far. -/
def betterO (cost : List Int → Int) (c : List Int) : Option (List Int) → Bool
  | none => true
  | some b => betterB cost c b
/-- What the first k masks have. -/
def accC (cost : List Int → Int) (prop : List Int → Bool) (cand : List Int) (k : Nat) : Option (List Int) := scanCheap cost prop ((List.range k).map (subsetM cand)) none
theorem accC_zero (cost : List Int → Int) (prop : List Int → Bool) (cand : List Int) : accC cost prop cand 0 = none := rfl
theorem accC_succ (cost : List Int → Int) (prop : List Int → Bool) (cand : List Int) (k : Nat) : accC cost prop cand (k + 1) = if (betterO cost (subsetM cand k) (accC cost prop cand k) && prop (subsetM cand k)) = true then some (subsetM cand k) else accC cost prop cand k := by
  unfold accC
  rw [List.range_succ, List.map_append, List.map_singleton, scanCheap_snoc]
  cases scanCheap cost prop ((List.range k).map (subsetM cand)) none with
  | none =>
    simp only [scanCheap, betterO, Bool.true_and]
  | some b =>
    simp only [scanCheap, betterO]
    rfl
theorem accC_congr {cost : List Int → Int} {p q : List Int → Bool} {cand : List Int} (k : Nat) (h : ∀ c, c.Sublist cand → p c = q c) : accC cost p cand k = accC cost q cand k :=
  scanCheap_congr _ _ fun c hc => by
    obtain ⟨m, _, rfl⟩ := List.mem_map.1 hc
    exact h _ (subsetM_sub cand m)
theorem accC_mem {cost : List Int → Int} {prop : List Int → Bool} {cand : List Int} {k : Nat} {b : List Int} (h : accC cost prop cand k = some b) : b.Sublist cand ∧ prop b = true := by
  have hf := (cheap_found cost prop ((List.range k).map (subsetM cand))).some_ b h
  obtain ⟨m, _, rfl⟩ := List.mem_map.1 hf.1
  exact ⟨subsetM_sub cand m, hf.2.1⟩
/-- The first numbers. -/
def upToP (n : Nat) : List Int := (List.range n).map Int.ofNat
theorem upTo_rising (n : Nat) : risingC (upToP n) n = 0 := risingC_iff.2 ⟨range_sorted n, fun _ hx => mem_range_int.1 hx⟩
theorem sub_rising {a b : List Int} {n : Int} (h : a.Sublist b) (hb : risingC b n = 0) : risingC a n = 0 := by
  rw [risingC_iff] at *
  exact ⟨hb.1.sublist h, fun x hx => hb.2 x (h.subset hx)⟩
theorem merged_mem {a b : List Int} {n : Nat} (ha : ∀ x ∈ a, 0 ≤ x ∧ x < (n : Int)) (hb : ∀ x ∈ b, 0 ≤ x ∧ x < (n : Int)) (x : Int) : x ∈ mergedF a b n ↔ x ∈ a ∨ x ∈ b := by
  unfold mergedF
  rw [List.mem_filter, mem_range_int]
  simp only [Bool.or_eq_true, List.contains_iff_mem]
  constructor
  · exact fun h => h.2
  · intro h
    exact ⟨h.elim (ha x) (hb x), h⟩
/-- A sorted list of the members is the merged one. -/
theorem merged_eq {a b c : List Int} {n : Nat} (ha : ∀ x ∈ a, 0 ≤ x ∧ x < (n : Int)) (hb : ∀ x ∈ b, 0 ≤ x ∧ x < (n : Int)) (hc : c.Pairwise (· < ·)) (hm : ∀ x, x ∈ c ↔ x ∈ a ∨ x ∈ b) : c = mergedF a b n :=
  sorted_eqI hc (risingC_iff.1 (merged_rising a b n)).1 fun x => by rw [hm, merged_mem ha hb]
theorem merged_nil {c : List Int} {n : Nat} (h : risingC c n = 0) : mergedF [] c n = c :=
  (merged_eq (by simp) (risingC_iff.1 h).2 (risingC_iff.1 h).1 (by simp)).symm
/-- How many of the chosen sites lie in a zone. -/
def inZone (L : List SiteD) (ch : List Int) (z : Int) : Nat := ch.countP fun i => (zonesAt L i).contains z
theorem meet_one (a : List Int) (z : Int) : meetB a [z] = a.contains z := by
  rw [Bool.eq_iff_iff]
  simp [meetB]
theorem left_zone (L : List SiteD) (ch : List Int) (z : Int) : (leftF L ch [z]).length + inZone L ch z = ch.length := by
  unfold leftF inZone
  induction ch with
  | nil => rfl
  | cons i r ih =>
    rw [List.filter_cons, List.countP_cons, meet_one]
    cases (zonesAt L i).contains z with
    | true => simp only [Bool.not_true, Bool.false_eq_true, if_false, if_true, List.length_cons]; omega
    | false => simp only [Bool.not_false, if_true, Bool.false_eq_true, if_false, List.length_cons]; omega
def apartF (L : List SiteD) (need : Int) (ch : List Int) : Bool := ((List.range 12).map Int.ofNat).all fun z => decide ((inZone L ch z : Int) < need)
theorem few_le_left {l : List SiteD} (hs : sitesF l = (0, 0)) {chosen : List Int} {losses : Nat} (h : 1 ≤ losses) (z : Int) : fewF l chosen (zonesF l) losses ≤ (leftF l chosen [z]).length := by
  by_cases hz : z ∈ zonesF l
  · exact (few_spec l (zonesF l) chosen losses).2 [z] (List.singleton_sublist.2 hz) (by simpa using h)
  · have e : leftF l chosen [z] = leftF l chosen [] := by
      unfold leftF
      congr 1
      funext i
      rw [meet_one]
      have : (zonesAt l i).contains z = false := by
        cases hc : (zonesAt l i).contains z with
        | false => rfl
        | true => exact absurd (zonesAt_mem hs i z (List.contains_iff_mem.1 hc)) hz
      rw [this]
      simp [meetB]
    rw [e]
    exact (few_spec l (zonesF l) chosen losses).2 [] (List.nil_sublist _) (Nat.zero_le _)
/-- How often a zone is named by the chosen sites. -/
def tally (L : List SiteD) (ch : List Int) (z : Int) : Nat := (ch.flatMap (zonesAt L)).count z
theorem tally_zone {L : List SiteD} (hs : sitesF L = (0, 0)) (ch : List Int) (z : Int) : tally L ch z = inZone L ch z := by
  unfold tally inZone
  induction ch with
  | nil => rfl
  | cons i r ih =>
    rw [List.flatMap_cons, List.count_append, ih, List.countP_cons, Nat.add_comm]
    congr 1
    have hr : risingC (zonesAt L i) 12 = 0 := by
      unfold zonesAt
      cases h : L[i.toNat]? with
      | none => rfl
      | some s => exact sites_zones hs s (List.mem_of_getElem? h)
    have hn : (zonesAt L i).Nodup := (risingC_iff.1 hr).1.imp fun h e => by omega
    cases hc : (zonesAt L i).contains z with
    | false =>
      rw [List.count_eq_zero_of_not_mem]
      · rfl
      · intro hm; rw [List.contains_iff_mem.2 hm] at hc; cases hc
    | true =>
      have := hn.count (a := z)
      rw [if_pos (List.contains_iff_mem.1 hc)] at this
      rw [this]; rfl
end Plain
namespace Go.Proofs.Ytbhcaniopdgjkaa
open Go Go.Proofs Go.RowKit
set_option maxHeartbeats 1600000
set_option maxRecDepth 100000
theorem cfault_c (c i : Int) (w : World) :
    Calls Try.prog 65 #[.int .i64 c, .int .i64 i] w fun e w' => e = .returned (.agg #[.int .i64 c, .int .i64 i]) ∧ w.alloc (.cells #[.int .i64 c, .int .i64 i] 25) = w' := by
  go_enter Try.func65, Try.ntmps65
  go_wp2
  exact bodyPost_ret (v := .agg #[.int .i64 c, .int .i64 i]) (by simp [results, Try.results65, go_sem]) rfl ⟨rfl, rfl⟩
theorem validLosses_c (n : Int) (w : World) : Calls Try.prog 64 #[.int .i64 n] w fun e w' => e = .returned (.bool (inB n 0 12)) ∧ w = w' := by
  have h1 : ∀ b, inB n 0 12 = b → Hid (inB n 0 12 = b) := fun _ h => h
  by_cases h2 : 0 ≤ n
  all_goals go_enter Try.func64, Try.ntmps64
  all_goals go_wp2
  all_goals go_ret
  all_goals refine ⟨ret_bool ?_, rfl⟩
  all_goals simp [inB]
  all_goals omega
theorem validLeft_c (n : Int) (w : World) : Calls Try.prog 66 #[.int .i64 n] w fun e w' => e = .returned (.bool (inB n 0 10)) ∧ w = w' := by
  have h1 : ∀ b, inB n 0 10 = b → Hid (inB n 0 10 = b) := fun _ h => h
  by_cases h2 : 0 ≤ n
  all_goals go_enter Try.func66, Try.ntmps66
  all_goals go_wp2
  all_goals go_ret
  all_goals refine ⟨ret_bool ?_, rfl⟩
  all_goals simp [inB]
  all_goals omega
/-- The first numbers. -/
def upTo (n : Nat) : List Int := (List.range n).map Int.ofNat
theorem upTo_len (n : Nat) : (upTo n).length = n := by simp [upTo]
theorem upTo_succ (n : Nat) : upTo (n + 1) = upTo n ++ [(n : Int)] := by
  unfold upTo; rw [List.range_succ, List.map_append]; rfl
theorem AllOf_c (A : Option Addr) (N c : Nat) (w : World) (hN : N ≤ 100000) : Calls Try.prog 35 #[.slice A N c] w (LRet w (upTo N)) := by
  obtain ⟨i0, hi, hz0, hz1, hz2⟩ := info_parts info3
  have HI := Lib.hid hi
  have HZ0 := Lib.hid hz0
  have HZ1 := Lib.hid hz1
  have HZ2 := Lib.hid hz2
  clear hi hz0 hz1 hz2
  go_enter Try.func35, Try.ntmps35
  go_wp2
  go_loopw [3, 4] (fun v i wr => ∃ k : Nat, k ≤ N ∧ i = .int .i64 k ∧ FillI w wr (upTo k) v) (fun _ i _ => N - (intOf i).toNat)
  case atStart => exact ⟨0, Nat.zero_le _, rfl, fill0 w⟩
  case round =>
    obtain ⟨k, hk, rfl, hr⟩ := hrel
    have HR := Lib.hid hr
    obtain ⟨VA, vc, rfl, _, _, _, _⟩ := own_sl hr.own
    have hlw := hr.x.size
    clear hr
    have hlen : (upTo k).length ≤ k := Nat.le_of_eq (upTo_len k)
    have HS := Lib.hid (upTo_succ k)
    obtain ⟨M, hM⟩ : ∃ M, upTo k = M := ⟨_, rfl⟩
    rw [hM] at HR HS hlen
    rw [hM]
    have HMM := Lib.hid hM
    clear hM
    by_cases hlt : k < N
    · go_wp2_with (at_builtin; refine wpList_append_sl rfl _ _ 23 rfl w.heap.size 3 i0 (.int .i64 0) 1 8 Try.underlying23 HI.out HZ0.out HZ1.out HZ2.out rfl (by decide) _ M.length (M.map (Value.int .i64)) rfl (HR.out.own.alloc _) (some ⟨wr.heap.size, 0, none⟩) 1 1 [.int .i64 (k : Int)] rfl (slc_new wr [.int .i64 (k : Int)] 3) rfl (by simp [Value.oneCell']) (by unfold maxLen; omega) (by omega) (by simp; omega) ?_; intro v3 w3 ho3 hg3 _h3; have HN3 := Lib.hid (HR.out.add ho3 hg3); obtain ⟨A3, c3', rfl, _, _, _, _⟩ := own_sl ho3; clear ho3 hg3 _h3)
      refine ⟨⟨k + 1, by omega, by go_num, by rw [HS.out]; exact HN3.out⟩, by simp [intOf]; omega⟩
    · obtain rfl : k = N := by omega
      go_wp2
      go_ret
      exact ⟨_, rfl, by rw [HMM.out]; exact HR.out.own, HR.out.x⟩
theorem all_c (A : Option Addr) (N c : Nat) (w : World) (hN : N ≤ 100000) : Calls Try.prog 71 #[.slice A N c] w (LRet w (upTo N)) := by
  obtain ⟨i0, hi, hz0, hz1, hz2⟩ := info_parts info3
  have HI := Lib.hid hi
  have HZ0 := Lib.hid hz0
  have HZ1 := Lib.hid hz1
  have HZ2 := Lib.hid hz2
  clear hi hz0 hz1 hz2
  go_enter Try.func71, Try.ntmps71
  go_wp2
  go_loopw [3, 7] (fun v i wr => ∃ k : Nat, k ≤ N ∧ i = .int .i64 k ∧ FillI w wr (upTo k) v) (fun _ i _ => N - (intOf i).toNat)
  case atStart => exact ⟨0, Nat.zero_le _, rfl, fill0 w⟩
  case round =>
    obtain ⟨k, hk, rfl, hr⟩ := hrel
    have HR := Lib.hid hr
    obtain ⟨VA, vc, rfl, _, _, _, _⟩ := own_sl hr.own
    have hlw := hr.x.size
    clear hr
    have hlen : (upTo k).length ≤ k := Nat.le_of_eq (upTo_len k)
    have HS := Lib.hid (upTo_succ k)
    obtain ⟨M, hM⟩ : ∃ M, upTo k = M := ⟨_, rfl⟩
    rw [hM] at HR HS hlen
    rw [hM]
    have HMM := Lib.hid hM
    clear hM
    by_cases hlt : k < N
    · go_wp2_with (at_builtin; refine wpList_append_sl rfl _ _ 23 rfl w.heap.size 3 i0 (.int .i64 0) 1 8 Try.underlying23 HI.out HZ0.out HZ1.out HZ2.out rfl (by decide) _ M.length (M.map (Value.int .i64)) rfl (HR.out.own.alloc _) (some ⟨wr.heap.size, 0, none⟩) 1 1 [.int .i64 (k : Int)] rfl (slc_new wr [.int .i64 (k : Int)] 3) rfl (by simp [Value.oneCell']) (by unfold maxLen; omega) (by omega) (by simp; omega) ?_; intro v3 w3 ho3 hg3 _h3; have HN3 := Lib.hid (HR.out.add ho3 hg3); obtain ⟨A3, c3', rfl, _, _, _, _⟩ := own_sl ho3; clear ho3 hg3 _h3)
      refine ⟨⟨k + 1, by omega, by go_num, by rw [HS.out]; exact HN3.out⟩, by simp [intOf]; omega⟩
    · obtain rfl : k = N := by omega
      go_wp2
      go_ret
      exact ⟨_, rfl, by rw [HMM.out]; exact HR.out.own, HR.out.x⟩
end Go.Proofs.Ytbhcaniopdgjkaa
namespace Go.Proofs.Ytbhcaniopdgjkaa
open Go Go.Proofs Go.RowKit
set_option maxHeartbeats 1600000
set_option maxRecDepth 100000
def powI (n : Nat) : Int := ((2 ^ n : Nat) : Int)
theorem powI_succ (n : Nat) : powI (n + 1) = 2 * powI n := by unfold powI; rw [Nat.pow_succ]; omega
theorem powI_le {n : Nat} (h : n ≤ 20) : 1 ≤ powI n ∧ powI n ≤ 1048576 := by
  unfold powI
  have h1 : 2 ^ n ≤ 2 ^ 20 := Nat.pow_le_pow_right (by omega) h
  have h2 : 0 < 2 ^ n := Nat.two_pow_pos n
  have h3 : (2 : Nat) ^ 20 = 1048576 := by decide
  rw [h3] at h1
  constructor <;> omega
theorem power_c (N : Nat) (w : World) (hN : N ≤ 20) : Calls Try.prog 61 #[.int .i64 (N : Int)] w fun e w' => e = .returned (.int .i64 (powI N)) ∧ w = w' := by
  go_enter Try.func61, Try.ntmps61
  go_wp2
  go_loop [3, 4] (fun p i => ∃ k : Nat, k ≤ N ∧ i = .int .i64 k ∧ p = .int .i64 (powI k)) (fun _ i => N - (intOf i).toNat)
  case atStart => exact ⟨0, Nat.zero_le _, rfl, rfl⟩
  case round =>
    obtain ⟨k, hk, rfl, rfl⟩ := hrel
    obtain ⟨p1, p2⟩ := powI_le (n := k) (by omega)
    have HS := Lib.hid (powI_succ k)
    by_cases hlt : k < N
    · go_wp2
      go_round
      case rel => exact ⟨k + 1, by omega, by go_num, by rw [HS.out]⟩
      case measure => simp [intOf]; omega
    · obtain rfl : k = N := by omega
      go_wp2
      go_ret
      exact ⟨rfl, rfl⟩
end Go.Proofs.Ytbhcaniopdgjkaa
namespace Go.Proofs.Ytbhcaniopdgjkaa
open Go Go.Proofs Go.RowKit
set_option maxHeartbeats 1600000
set_option maxRecDepth 100000
structure SubI (w wr : World) (l : List Int) (m k mk : Nat) (v : Value) (S : List Int) : Prop where
  f : FillI w wr S v
  len : S.length ≤ k
  le : mk ≤ m
  eq : S ++ Plain.subsetM (l.drop k) mk = Plain.subsetM l m
theorem sub0 (w : World) (l : List Int) (m : Nat) : SubI w w l m 0 m (.slice none 0 0) [] := ⟨fill0 w, Nat.le_refl _, Nat.le_refl _, rfl⟩
theorem sub_drop {l : List Int} {k mk : Nat} {x : Int} (hx : l[k]? = some x) : Plain.subsetM (l.drop k) mk = (if mk % 2 = 1 then [x] else []) ++ Plain.subsetM (l.drop (k + 1)) (mk / 2) := by
  obtain ⟨h1, rfl⟩ := List.getElem?_eq_some_iff.1 hx
  rw [List.drop_eq_getElem_cons h1, Plain.subsetM]
  split <;> simp
theorem SubI.skip {w wr : World} {l : List Int} {m k mk : Nat} {v : Value} {S : List Int} {x : Int} (h : SubI w wr l m k mk v S) (hx : l[k]? = some x) (ho : ¬ mk % 2 = 1) : SubI w wr l m (k + 1) (mk / 2) v S :=
  ⟨h.f, Nat.le_succ_of_le h.len, Nat.le_trans (Nat.div_le_self _ _) h.le, by rw [← h.eq, sub_drop hx, if_neg ho]; rfl⟩
theorem SubI.add {w wr w3 : World} {l : List Int} {m k mk : Nat} {v v3 : Value} {S : List Int} {x : Int} (h : SubI w wr l m k mk v S) (hx : l[k]? = some x) (ho : mk % 2 = 1) (hf : FillI w w3 (S ++ [x]) v3) : SubI w w3 l m (k + 1) (mk / 2) v3 (S ++ [x]) :=
  ⟨hf, by rw [List.length_append]; exact Nat.succ_le_succ h.len, Nat.le_trans (Nat.div_le_self _ _) h.le, by rw [← h.eq, sub_drop hx, if_pos ho, List.append_assoc]⟩
theorem subset_c (A : Option Addr) (l : List Int) (c m : Nat) (w : World) (hl : l.length ≤ 1000) (hm : m ≤ 1048576) (h1 : Sl w .i64 A l) : Calls Try.prog 62 #[.slice A l.length c, .int .i64 (m : Int)] w (LRet w (Plain.subsetM l m)) := by
  obtain ⟨i0, hi, hz0, hz1, hz2⟩ := info_parts info3
  have HI := Lib.hid hi
  have HZ0 := Lib.hid hz0
  have HZ1 := Lib.hid hz1
  have HZ2 := Lib.hid hz2
  clear hi hz0 hz1 hz2
  obtain ⟨q, hq⟩ : ∃ q, q = l.length := ⟨_, rfl⟩
  rw [← hq] at hl ⊢
  have HQ := Lib.hid hq
  clear hq
  go_enter Try.func62, Try.ntmps62
  go_wp2
  go_loopw [1, 5, 6] (fun mv v i wr => ∃ k mk : Nat, ∃ S, k ≤ q ∧ i = .int .i64 k ∧ mv = .int .i64 (mk : Int) ∧ SubI w wr l m k mk v S) (fun _ _ i _ => q - (intOf i).toNat)
  case atStart => exact ⟨0, m, [], Nat.zero_le _, rfl, rfl, sub0 w l m⟩
  case round =>
    obtain ⟨k, mk, S, hk, rfl, rfl, hr⟩ := hrel
    have HR := Lib.hid hr
    obtain ⟨VA, vc, rfl, _, _, _, _⟩ := own_sl hr.f.own
    have hlw := hr.f.x.size
    have hSl := hr.len
    have hmk := hr.le
    clear hr
    by_cases hlt : k < q
    · have hkl : k < l.length := by rw [← HQ.out]; exact hlt
      obtain ⟨b, o, x, rfl, hx, ha⟩ := h1.at2 hkl
      have ha' := HR.out.f.x.cell ha
      clear hkl ha
      have ed : ((mk : Int) / 2) = ((mk / 2 : Nat) : Int) := by omega
      by_cases ho : mk % 2 = 1
      · have f1 : ((mk : Int) % 2 == 1) = true := by simp; omega
        have f2 : (mk % 2 == 1) = true := by simpa using ho
        have HO := Lib.hid ho
        have HED := Lib.hid ed
        clear ho ed
        go_wp2_with (at_builtin; refine wpList_append_sl rfl _ _ 23 rfl w.heap.size 3 i0 (.int .i64 0) 1 8 Try.underlying23 HI.out HZ0.out HZ1.out HZ2.out rfl (by decide) _ S.length (S.map (Value.int .i64)) rfl (HR.out.f.own.alloc _) (some ⟨wr.heap.size, 0, none⟩) 1 1 [.int .i64 x] rfl (slc_new wr [.int .i64 x] 3) rfl (by simp [Value.oneCell']) (by unfold maxLen; omega) (by omega) (by simp; omega) ?_; intro v3 w3 ho3 hg3 _h3; have HN3 := Lib.hid (HR.out.add hx.out HO.out (HR.out.f.add ho3 hg3)); obtain ⟨A3, c3', rfl, _, _, _, _⟩ := own_sl ho3; clear ho3 hg3 _h3)
        refine ⟨⟨k + 1, mk / 2, S ++ [x], by omega, by go_num, by first | rfl | (rw [HED.out]), HN3.out⟩, by simp [intOf]; omega⟩
      · have f1 : ((mk : Int) % 2 == 1) = false := by simp; omega
        have f2 : (mk % 2 == 1) = false := by simpa using ho
        have HO := Lib.hid ho
        have HED := Lib.hid ed
        clear ho ed
        go_wp2
        refine ⟨⟨k + 1, mk / 2, S, by omega, by go_num, by first | rfl | (rw [HED.out]), HR.out.skip hx.out HO.out⟩, by simp [intOf]; omega⟩
    · have HE : Hid (Plain.subsetM l m = S) := by
        show _ = S
        rw [← HR.out.eq, List.drop_of_length_le (by rw [← HQ.out]; omega)]
        simp [Plain.subsetM]
      go_wp2
      go_ret
      exact ⟨_, rfl, by rw [HE.out]; exact HR.out.f.own, HR.out.f.x⟩
end Go.Proofs.Ytbhcaniopdgjkaa
