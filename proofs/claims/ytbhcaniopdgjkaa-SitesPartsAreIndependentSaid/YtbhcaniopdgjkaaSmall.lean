import Derived.Test.YtbhcaniopdgjkaaNameR
namespace Go.Proofs.Ytbhcaniopdgjkaa
open Go Go.Proofs Go.RowKit
set_option maxHeartbeats 1600000
set_option maxRecDepth 100000
theorem cfault_c (c i : Int) (w : World) :
    Calls Try.prog 65 #[.int .i64 c, .int .i64 i] w fun e w' => e = .returned (.agg #[.int .i64 c, .int .i64 i]) ∧ w.alloc (.cells #[.int .i64 c, .int .i64 i] 25) = w' := by
  go_enter Try.func65, Try.ntmps65
  go_wp2
  exact bodyPost_ret (v := .agg #[.int .i64 c, .int .i64 i]) (by simp [results, Try.results65, go_sem]) rfl ⟨rfl, rfl⟩
theorem validLosses_c (n : Int) (w : World) : Calls Try.prog 64 #[.int .i64 n] w fun e w' => e = .returned (.bool (inB n 0 12)) ∧ w = w' := by
  have h1 : ∀ b, inB n 0 12 = b → Hid (inB n 0 12 = b) := fun _ h => h
  by_cases h2 : 0 ≤ n
  all_goals go_enter Try.func64, Try.ntmps64
  all_goals go_wp2
  all_goals go_ret
  all_goals refine ⟨ret_bool ?_, rfl⟩
  all_goals simp [inB]
  all_goals omega
theorem validLeft_c (n : Int) (w : World) : Calls Try.prog 66 #[.int .i64 n] w fun e w' => e = .returned (.bool (inB n 0 10)) ∧ w = w' := by
  have h1 : ∀ b, inB n 0 10 = b → Hid (inB n 0 10 = b) := fun _ h => h
  by_cases h2 : 0 ≤ n
  all_goals go_enter Try.func66, Try.ntmps66
  all_goals go_wp2
  all_goals go_ret
  all_goals refine ⟨ret_bool ?_, rfl⟩
  all_goals simp [inB]
  all_goals omega
/-- The first numbers. -/
def upTo (n : Nat) : List Int := (List.range n).map Int.ofNat
theorem upTo_len (n : Nat) : (upTo n).length = n := by simp [upTo]
theorem upTo_succ (n : Nat) : upTo (n + 1) = upTo n ++ [(n : Int)] := by
  unfold upTo; rw [List.range_succ, List.map_append]; rfl
theorem AllOf_c (A : Option Addr) (N c : Nat) (w : World) (hN : N ≤ 100000) : Calls Try.prog 35 #[.slice A N c] w (LRet w (upTo N)) := by
  obtain ⟨i0, hi, hz0, hz1, hz2⟩ := info_parts info3
  have HI := Lib.hid hi
  have HZ0 := Lib.hid hz0
  have HZ1 := Lib.hid hz1
  have HZ2 := Lib.hid hz2
  clear hi hz0 hz1 hz2
  go_enter Try.func35, Try.ntmps35
  go_wp2
  go_loopw [3, 4] (fun v i wr => ∃ k : Nat, k ≤ N ∧ i = .int .i64 k ∧ FillI w wr (upTo k) v) (fun _ i _ => N - (intOf i).toNat)
  case atStart => exact ⟨0, Nat.zero_le _, rfl, fill0 w⟩
  case round =>
    obtain ⟨k, hk, rfl, hr⟩ := hrel
    have HR := Lib.hid hr
    obtain ⟨VA, vc, rfl, _, _, _, _⟩ := own_sl hr.own
    have hlw := hr.x.size
    clear hr
    have hlen : (upTo k).length ≤ k := Nat.le_of_eq (upTo_len k)
    have HS := Lib.hid (upTo_succ k)
    obtain ⟨M, hM⟩ : ∃ M, upTo k = M := ⟨_, rfl⟩
    rw [hM] at HR HS hlen
    rw [hM]
    have HMM := Lib.hid hM
    clear hM
    by_cases hlt : k < N
    · go_wp2_with (at_builtin; refine wpList_append_sl rfl _ _ 23 rfl w.heap.size 3 i0 (.int .i64 0) 1 8 Try.underlying23 HI.out HZ0.out HZ1.out HZ2.out rfl (by decide) _ M.length (M.map (Value.int .i64)) rfl (HR.out.own.alloc _) (some ⟨wr.heap.size, 0, none⟩) 1 1 [.int .i64 (k : Int)] rfl (slc_new wr [.int .i64 (k : Int)] 3) rfl (by simp [Value.oneCell']) (by unfold maxLen; omega) (by omega) (by simp; omega) ?_; intro v3 w3 ho3 hg3 _h3; have HN3 := Lib.hid (HR.out.add ho3 hg3); obtain ⟨A3, c3', rfl, _, _, _, _⟩ := own_sl ho3; clear ho3 hg3 _h3)
      refine ⟨⟨k + 1, by omega, by go_num, by rw [HS.out]; exact HN3.out⟩, by simp [intOf]; omega⟩
    · obtain rfl : k = N := by omega
      go_wp2
      go_ret
      exact ⟨_, rfl, by rw [HMM.out]; exact HR.out.own, HR.out.x⟩
theorem all_c (A : Option Addr) (N c : Nat) (w : World) (hN : N ≤ 100000) : Calls Try.prog 71 #[.slice A N c] w (LRet w (upTo N)) := by
  obtain ⟨i0, hi, hz0, hz1, hz2⟩ := info_parts info3
  have HI := Lib.hid hi
  have HZ0 := Lib.hid hz0
  have HZ1 := Lib.hid hz1
  have HZ2 := Lib.hid hz2
  clear hi hz0 hz1 hz2
  go_enter Try.func71, Try.ntmps71
  go_wp2
  go_loopw [3, 7] (fun v i wr => ∃ k : Nat, k ≤ N ∧ i = .int .i64 k ∧ FillI w wr (upTo k) v) (fun _ i _ => N - (intOf i).toNat)
  case atStart => exact ⟨0, Nat.zero_le _, rfl, fill0 w⟩
  case round =>
    obtain ⟨k, hk, rfl, hr⟩ := hrel
    have HR := Lib.hid hr
    obtain ⟨VA, vc, rfl, _, _, _, _⟩ := own_sl hr.own
    have hlw := hr.x.size
    clear hr
    have hlen : (upTo k).length ≤ k := Nat.le_of_eq (upTo_len k)
    have HS := Lib.hid (upTo_succ k)
    obtain ⟨M, hM⟩ : ∃ M, upTo k = M := ⟨_, rfl⟩
    rw [hM] at HR HS hlen
    rw [hM]
    have HMM := Lib.hid hM
    clear hM
    by_cases hlt : k < N
    · go_wp2_with (at_builtin; refine wpList_append_sl rfl _ _ 23 rfl w.heap.size 3 i0 (.int .i64 0) 1 8 Try.underlying23 HI.out HZ0.out HZ1.out HZ2.out rfl (by decide) _ M.length (M.map (Value.int .i64)) rfl (HR.out.own.alloc _) (some ⟨wr.heap.size, 0, none⟩) 1 1 [.int .i64 (k : Int)] rfl (slc_new wr [.int .i64 (k : Int)] 3) rfl (by simp [Value.oneCell']) (by unfold maxLen; omega) (by omega) (by simp; omega) ?_; intro v3 w3 ho3 hg3 _h3; have HN3 := Lib.hid (HR.out.add ho3 hg3); obtain ⟨A3, c3', rfl, _, _, _, _⟩ := own_sl ho3; clear ho3 hg3 _h3)
      refine ⟨⟨k + 1, by omega, by go_num, by rw [HS.out]; exact HN3.out⟩, by simp [intOf]; omega⟩
    · obtain rfl : k = N := by omega
      go_wp2
      go_ret
      exact ⟨_, rfl, by rw [HMM.out]; exact HR.out.own, HR.out.x⟩
end Go.Proofs.Ytbhcaniopdgjkaa
