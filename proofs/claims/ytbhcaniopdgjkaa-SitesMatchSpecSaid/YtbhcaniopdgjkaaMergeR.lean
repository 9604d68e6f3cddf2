import Derived.Test.YtbhcaniopdgjkaaLeftR
namespace Go.Proofs.Ytbhcaniopdgjkaa
open Go Go.Proofs Go.RowKit
set_option maxHeartbeats 1600000
set_option maxRecDepth 100000
/-- A row that has been filled by going through a list. -/
structure FillI (w wr : World) (l : List Int) (v : Value) : Prop where
  own : wr.ownsRow w.heap.size 3 1 v l.length (l.map (Value.int .i64))
  x : Ext w wr
theorem fill0 (w : World) : FillI w w [] (.slice none 0 0) := ⟨World.ownsRow_nil _ _ _ _, Ext.refl w⟩
theorem FillI.ext {w wr w1 : World} {l : List Int} {v : Value} (h : FillI w wr l v) (x : Ext wr w1) : FillI w w1 l v := ⟨own_ext h.own x, h.x.trans x⟩
theorem FillI.add {w w1 w3 : World} {l : List Int} {v v3 : Value} {i : Int} {o : Obj} (h : FillI w w1 l v)
    (ho : w3.ownsRow w.heap.size 3 1 v3 (l.length + 1) (l.map (Value.int .i64) ++ [.int .i64 i])) (hg : (w1.alloc o).grownBy w3 v.ownBlock) : FillI w w3 (l ++ [i]) v3 := by
  have hx1 : Ext w1 (w1.alloc o) := (Ext.refl w1).alloc o
  refine ⟨?_, grow_ext (h.x.trans hx1) (own_ext h.own hx1) hg⟩
  rw [List.length_append, List.map_append]
  exact ho
theorem merged_step (a b : List Int) (k : Nat) : Plain.mergedF a b (k + 1) = Plain.mergedF a b k ++ (if (hasB a k || hasB b k) = true then [(k : Int)] else []) := by
  unfold Plain.mergedF
  rw [List.range_succ, List.map_append, List.filter_append]
  congr 1
  show List.filter _ [(k : Int)] = _
  rw [List.filter_cons]
  rfl
theorem merged_len (a b : List Int) (k : Nat) : (Plain.mergedF a b k).length ≤ k := by
  unfold Plain.mergedF
  refine Nat.le_trans (List.length_filter_le _ _) ?_
  simp
theorem Merged_c (A B : Option Addr) (a b : List Int) (c d : Nat) (N : Nat) (w : World) (ha : a.length ≤ maxLen) (hb : b.length ≤ maxLen) (hN : N ≤ 100000) (h1 : Sl w .i64 A a) (h2 : Sl w .i64 B b) :
    Calls Try.prog 33 #[.slice A a.length c, .slice B b.length d, .int .i64 (N : Int)] w (LRet w (Plain.mergedF a b N)) := by
  have HA := Lib.hid (fun n W (x : Ext w W) => Has_c A a c n W ha (h1.ext x))
  have HB := Lib.hid (fun n W (x : Ext w W) => Has_c B b d n W hb (h2.ext x))
  obtain ⟨i0, hi, hz0, hz1, hz2⟩ := info_parts info3
  have HI := Lib.hid hi
  have HZ0 := Lib.hid hz0
  have HZ1 := Lib.hid hz1
  have HZ2 := Lib.hid hz2
  clear ha hb h1 h2 hi hz0 hz1 hz2
  obtain ⟨la, hla⟩ : ∃ la, la = a.length := ⟨_, rfl⟩
  obtain ⟨lb, hlb⟩ : ∃ lb, lb = b.length := ⟨_, rfl⟩
  rw [← hla] at HA ⊢
  rw [← hlb] at HB ⊢
  clear hla hlb
  go_enter Try.func33, Try.ntmps33
  go_wp2
  go_loopw [7, 8] (fun v i wr => ∃ k : Nat, k ≤ N ∧ i = .int .i64 k ∧ FillI w wr (Plain.mergedF a b k) v) (fun _ i _ => N - (intOf i).toNat)
  case atStart => exact ⟨0, Nat.zero_le _, rfl, fill0 w⟩
  case round =>
    obtain ⟨k, hk, rfl, hr⟩ := hrel
    have HR := Lib.hid hr
    obtain ⟨VA, vc, rfl, _, _, _, _⟩ := own_sl hr.own
    have hlw := hr.x.size
    clear hr
    have hlen := merged_len a b k
    by_cases hlt : k < N
    · have HS := Lib.hid (merged_step a b k)
      have HAK := Lib.hid (HA.out k wr HR.out.x)
      have HBK := Lib.hid (HB.out k wr HR.out.x)
      obtain ⟨M, hM⟩ : ∃ M, Plain.mergedF a b k = M := ⟨_, rfl⟩
      rw [hM] at HR HS hlen
      rw [hM]
      cases hak : hasB a k with
      | true =>
        rw [hak] at HAK HS
        have HS2 : Hid (Plain.mergedF a b (k + 1) = M ++ [(k : Int)]) := by show _ = _; rw [HS.out]; simp
        clear hak hM
        go_wp2_with (first | (go_at_call 34; refine HAK.out.mono ?_; rintro e w' ⟨rfl, rfl⟩) | (at_builtin; refine wpList_append_sl rfl _ _ 23 rfl w.heap.size 3 i0 (.int .i64 0) 1 8 Try.underlying23 HI.out HZ0.out HZ1.out HZ2.out rfl (by decide) _ M.length (M.map (Value.int .i64)) rfl (HR.out.own.alloc _) (some ⟨wr.heap.size, 0, none⟩) 1 1 [.int .i64 (k : Int)] rfl (slc_new wr [.int .i64 (k : Int)] 3) rfl (by simp [Value.oneCell']) (by unfold maxLen; omega) (by omega) (by simp; omega) ?_; intro v3 w3 ho3 hg3 _h3; have HN3 := Lib.hid (HR.out.add ho3 hg3); obtain ⟨A3, c3', rfl, _, _, _, _⟩ := own_sl ho3; clear ho3 hg3 _h3))
        refine ⟨⟨k + 1, by omega, by go_num, by rw [HS2.out]; exact HN3.out⟩, by simp [intOf]; omega⟩
      | false =>
        cases hbk : hasB b k with
        | true =>
          rw [hak] at HAK HS
          rw [hbk] at HBK HS
          have HS2 : Hid (Plain.mergedF a b (k + 1) = M ++ [(k : Int)]) := by show _ = _; rw [HS.out]; simp
          clear hak hM hbk
          go_wp2_with (first | (go_at_call 34; (first | ((with_reducible refine HAK.out.mono ?_); rintro e w' ⟨rfl, rfl⟩) | ((with_reducible refine HBK.out.mono ?_); rintro e w' ⟨rfl, rfl⟩))) | (at_builtin; refine wpList_append_sl rfl _ _ 23 rfl w.heap.size 3 i0 (.int .i64 0) 1 8 Try.underlying23 HI.out HZ0.out HZ1.out HZ2.out rfl (by decide) _ M.length (M.map (Value.int .i64)) rfl (HR.out.own.alloc _) (some ⟨wr.heap.size, 0, none⟩) 1 1 [.int .i64 (k : Int)] rfl (slc_new wr [.int .i64 (k : Int)] 3) rfl (by simp [Value.oneCell']) (by unfold maxLen; omega) (by omega) (by simp; omega) ?_; intro v3 w3 ho3 hg3 _h3; have HN3 := Lib.hid (HR.out.add ho3 hg3); obtain ⟨A3, c3', rfl, _, _, _, _⟩ := own_sl ho3; clear ho3 hg3 _h3))
          refine ⟨⟨k + 1, by omega, by go_num, by rw [HS2.out]; exact HN3.out⟩, by simp [intOf]; omega⟩
        | false =>
          rw [hak] at HAK HS
          rw [hbk] at HBK HS
          have HS2 : Hid (Plain.mergedF a b (k + 1) = M) := by show _ = _; rw [HS.out]; simp
          clear hak hM hbk
          go_wp2_with (go_at_call 34; (first | ((with_reducible refine HAK.out.mono ?_); rintro e w' ⟨rfl, rfl⟩) | ((with_reducible refine HBK.out.mono ?_); rintro e w' ⟨rfl, rfl⟩)))
          refine ⟨⟨k + 1, by omega, by go_num, by rw [HS2.out]; exact HR.out⟩, by simp [intOf]; omega⟩
    · obtain rfl : k = N := by omega
      go_wp2
      go_ret
      exact ⟨_, rfl, HR.out.own, HR.out.x⟩
end Go.Proofs.Ytbhcaniopdgjkaa
