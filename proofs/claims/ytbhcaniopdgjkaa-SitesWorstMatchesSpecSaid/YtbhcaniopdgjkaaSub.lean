import Derived.Test.YtbhcaniopdgjkaaSmall2
namespace Go.Proofs.Ytbhcaniopdgjkaa
open Go Go.Proofs Go.RowKit
set_option maxHeartbeats 1600000
set_option maxRecDepth 100000
structure SubI (w wr : World) (l : List Int) (m k mk : Nat) (v : Value) (S : List Int) : Prop where
  f : FillI w wr S v
  len : S.length ≤ k
  le : mk ≤ m
  eq : S ++ Plain.subsetM (l.drop k) mk = Plain.subsetM l m
theorem sub0 (w : World) (l : List Int) (m : Nat) : SubI w w l m 0 m (.slice none 0 0) [] := ⟨fill0 w, Nat.le_refl _, Nat.le_refl _, rfl⟩
theorem sub_drop {l : List Int} {k mk : Nat} {x : Int} (hx : l[k]? = some x) : Plain.subsetM (l.drop k) mk = (if mk % 2 = 1 then [x] else []) ++ Plain.subsetM (l.drop (k + 1)) (mk / 2) := by
  obtain ⟨h1, rfl⟩ := List.getElem?_eq_some_iff.1 hx
  rw [List.drop_eq_getElem_cons h1, Plain.subsetM]
  split <;> simp
theorem SubI.skip {w wr : World} {l : List Int} {m k mk : Nat} {v : Value} {S : List Int} {x : Int} (h : SubI w wr l m k mk v S) (hx : l[k]? = some x) (ho : ¬ mk % 2 = 1) : SubI w wr l m (k + 1) (mk / 2) v S :=
  ⟨h.f, Nat.le_succ_of_le h.len, Nat.le_trans (Nat.div_le_self _ _) h.le, by rw [← h.eq, sub_drop hx, if_neg ho]; rfl⟩
theorem SubI.add {w wr w3 : World} {l : List Int} {m k mk : Nat} {v v3 : Value} {S : List Int} {x : Int} (h : SubI w wr l m k mk v S) (hx : l[k]? = some x) (ho : mk % 2 = 1) (hf : FillI w w3 (S ++ [x]) v3) : SubI w w3 l m (k + 1) (mk / 2) v3 (S ++ [x]) :=
  ⟨hf, by rw [List.length_append]; exact Nat.succ_le_succ h.len, Nat.le_trans (Nat.div_le_self _ _) h.le, by rw [← h.eq, sub_drop hx, if_pos ho, List.append_assoc]⟩
theorem subset_c (A : Option Addr) (l : List Int) (c m : Nat) (w : World) (hl : l.length ≤ 1000) (hm : m ≤ 1048576) (h1 : Sl w .i64 A l) : Calls Try.prog 62 #[.slice A l.length c, .int .i64 (m : Int)] w (LRet w (Plain.subsetM l m)) := by
  obtain ⟨i0, hi, hz0, hz1, hz2⟩ := info_parts info3
  have HI := Lib.hid hi
  have HZ0 := Lib.hid hz0
  have HZ1 := Lib.hid hz1
  have HZ2 := Lib.hid hz2
  clear hi hz0 hz1 hz2
  obtain ⟨q, hq⟩ : ∃ q, q = l.length := ⟨_, rfl⟩
  rw [← hq] at hl ⊢
  have HQ := Lib.hid hq
  clear hq
  go_enter Try.func62, Try.ntmps62
  go_wp2
  go_loopw [1, 5, 6] (fun mv v i wr => ∃ k mk : Nat, ∃ S, k ≤ q ∧ i = .int .i64 k ∧ mv = .int .i64 (mk : Int) ∧ SubI w wr l m k mk v S) (fun _ _ i _ => q - (intOf i).toNat)
  case atStart => exact ⟨0, m, [], Nat.zero_le _, rfl, rfl, sub0 w l m⟩
  case round =>
    obtain ⟨k, mk, S, hk, rfl, rfl, hr⟩ := hrel
    have HR := Lib.hid hr
    obtain ⟨VA, vc, rfl, _, _, _, _⟩ := own_sl hr.f.own
    have hlw := hr.f.x.size
    have hSl := hr.len
    have hmk := hr.le
    clear hr
    by_cases hlt : k < q
    · have hkl : k < l.length := by rw [← HQ.out]; exact hlt
      obtain ⟨b, o, x, rfl, hx, ha⟩ := h1.at2 hkl
      have ha' := HR.out.f.x.cell ha
      clear hkl ha
      have ed : ((mk : Int) / 2) = ((mk / 2 : Nat) : Int) := by omega
      by_cases ho : mk % 2 = 1
      · have f1 : ((mk : Int) % 2 == 1) = true := by simp; omega
        have f2 : (mk % 2 == 1) = true := by simpa using ho
        have HO := Lib.hid ho
        have HED := Lib.hid ed
        clear ho ed
        go_wp2_with (at_builtin; refine wpList_append_sl rfl _ _ 23 rfl w.heap.size 3 i0 (.int .i64 0) 1 8 Try.underlying23 HI.out HZ0.out HZ1.out HZ2.out rfl (by decide) _ S.length (S.map (Value.int .i64)) rfl (HR.out.f.own.alloc _) (some ⟨wr.heap.size, 0, none⟩) 1 1 [.int .i64 x] rfl (slc_new wr [.int .i64 x] 3) rfl (by simp [Value.oneCell']) (by unfold maxLen; omega) (by omega) (by simp; omega) ?_; intro v3 w3 ho3 hg3 _h3; have HN3 := Lib.hid (HR.out.add hx.out HO.out (HR.out.f.add ho3 hg3)); obtain ⟨A3, c3', rfl, _, _, _, _⟩ := own_sl ho3; clear ho3 hg3 _h3)
        refine ⟨⟨k + 1, mk / 2, S ++ [x], by omega, by go_num, by first | rfl | (rw [HED.out]), HN3.out⟩, by simp [intOf]; omega⟩
      · have f1 : ((mk : Int) % 2 == 1) = false := by simp; omega
        have f2 : (mk % 2 == 1) = false := by simpa using ho
        have HO := Lib.hid ho
        have HED := Lib.hid ed
        clear ho ed
        go_wp2
        refine ⟨⟨k + 1, mk / 2, S, by omega, by go_num, by first | rfl | (rw [HED.out]), HR.out.skip hx.out HO.out⟩, by simp [intOf]; omega⟩
    · have HE : Hid (Plain.subsetM l m = S) := by
        show _ = S
        rw [← HR.out.eq, List.drop_of_length_le (by rw [← HQ.out]; omega)]
        simp [Plain.subsetM]
      go_wp2
      go_ret
      exact ⟨_, rfl, by rw [HE.out]; exact HR.out.f.own, HR.out.f.x⟩
end Go.Proofs.Ytbhcaniopdgjkaa
