import Derived.Test.YtbhcaniopdgjkaaSub
namespace Go.Proofs.Ytbhcaniopdgjkaa
open Go Go.Proofs Go.RowKit
set_option maxHeartbeats 1600000
set_option maxRecDepth 100000
def withoutF (a b : List Int) : List Int := a.filter fun x => !hasB b x
theorem without_step {a b : List Int} {k : Nat} {x : Int} (hx : a[k]? = some x) : withoutF (a.take (k + 1)) b = withoutF (a.take k) b ++ (if hasB b x = true then [] else [x]) := by
  obtain ⟨h1, rfl⟩ := List.getElem?_eq_some_iff.1 hx
  unfold withoutF
  rw [List.take_succ_eq_append_getElem h1, List.filter_append]
  congr 1
  cases h : hasB b a[k] <;> simp [h]
theorem Without_c (A B : Option Addr) (a b : List Int) (c d : Nat) (w : World) (ha : a.length ≤ 100000) (hb : b.length ≤ maxLen) (h1 : Sl w .i64 A a) (h2 : Sl w .i64 B b) :
    Calls Try.prog 44 #[.slice A a.length c, .slice B b.length d] w (LRet w (withoutF a b)) := by
  have HB := Lib.hid (fun n W (x : Ext w W) => Has_c B b d n W hb (h2.ext x))
  obtain ⟨i0, hi, hz0, hz1, hz2⟩ := info_parts info3
  have HI := Lib.hid hi
  have HZ0 := Lib.hid hz0
  have HZ1 := Lib.hid hz1
  have HZ2 := Lib.hid hz2
  clear hb h2 hi hz0 hz1 hz2
  obtain ⟨q, hq⟩ : ∃ q, q = a.length := ⟨_, rfl⟩
  rw [← hq] at ha ⊢
  have HQ := Lib.hid hq
  obtain ⟨lb, hlb⟩ : ∃ lb, lb = b.length := ⟨_, rfl⟩
  rw [← hlb] at HB ⊢
  clear hq hlb
  go_enter Try.func44, Try.ntmps44
  go_wp2
  go_loopw [5, 6] (fun v i wr => ∃ k : Nat, k ≤ q ∧ i = .int .i64 k ∧ FillI w wr (withoutF (a.take k) b) v) (fun _ i _ => q - (intOf i).toNat)
  case atStart => exact ⟨0, Nat.zero_le _, rfl, fill0 w⟩
  case round =>
    obtain ⟨k, hk, rfl, hr⟩ := hrel
    have HR := Lib.hid hr
    obtain ⟨VA, vc, rfl, _, _, _, _⟩ := own_sl hr.own
    have hlw := hr.x.size
    clear hr
    have hlen : (withoutF (a.take k) b).length ≤ k := Nat.le_trans (List.length_filter_le _ _) (by rw [List.length_take]; omega)
    obtain ⟨M, hM⟩ : ∃ M, withoutF (a.take k) b = M := ⟨_, rfl⟩
    rw [hM] at HR hlen
    rw [hM]
    have HMM := Lib.hid hM
    clear hM
    by_cases hlt : k < q
    · have hkl : k < a.length := by rw [← HQ.out]; exact hlt
      obtain ⟨bb, o, x, rfl, hx, hc⟩ := h1.at2 hkl
      have hc' := HR.out.x.cell hc
      have HS := Lib.hid (without_step (b := b) hx.out)
      have HBK := Lib.hid (HB.out x wr HR.out.x)
      clear hkl hc
      cases hbk : hasB b x with
      | true =>
        rw [hbk] at HBK HS
        have HS2 : Hid (withoutF (a.take (k + 1)) b = M) := by show _ = M; rw [HS.out, HMM.out]; simp
        clear hbk
        go_wp2_with (go_at_call 34; refine HBK.out.mono ?_; rintro e w' ⟨rfl, rfl⟩)
        refine ⟨⟨k + 1, by omega, by go_num, by rw [HS2.out]; exact HR.out⟩, by simp [intOf]; omega⟩
      | false =>
        rw [hbk] at HBK HS
        have HS2 : Hid (withoutF (a.take (k + 1)) b = M ++ [x]) := by show _ = M ++ [x]; rw [HS.out, HMM.out]; simp
        clear hbk
        go_wp2_with (first | (go_at_call 34; refine HBK.out.mono ?_; rintro e w' ⟨rfl, rfl⟩) | (at_builtin; refine wpList_append_sl rfl _ _ 23 rfl w.heap.size 3 i0 (.int .i64 0) 1 8 Try.underlying23 HI.out HZ0.out HZ1.out HZ2.out rfl (by decide) _ M.length (M.map (Value.int .i64)) rfl (HR.out.own.alloc _) (some ⟨wr.heap.size, 0, none⟩) 1 1 [.int .i64 x] rfl (slc_new wr [.int .i64 x] 3) rfl (by simp [Value.oneCell']) (by unfold maxLen; omega) (by omega) (by simp; omega) ?_; intro v3 w3 ho3 hg3 _h3; have HN3 := Lib.hid (HR.out.add ho3 hg3); obtain ⟨A3, c3', rfl, _, _, _, _⟩ := own_sl ho3; clear ho3 hg3 _h3))
        refine ⟨⟨k + 1, by omega, by go_num, by rw [HS2.out]; exact HN3.out⟩, by simp [intOf]; omega⟩
    · have HE : Hid (withoutF a b = M) := by
        show _ = M
        rw [← HMM.out, List.take_of_length_le (by rw [← HQ.out]; omega)]
      go_wp2
      go_ret
      exact ⟨_, rfl, by rw [HE.out]; exact HR.out.own, HR.out.x⟩
end Go.Proofs.Ytbhcaniopdgjkaa
