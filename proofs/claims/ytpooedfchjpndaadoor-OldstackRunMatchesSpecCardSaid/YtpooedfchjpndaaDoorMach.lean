import Derived.Test.YtpooedfchjpndaaDoorValid
import Derived.Test.YtpooedfchjpndaaDoorMachL
namespace Go.Proofs.YtpooedfchjpndaaDoor
open Go Go.Proofs Go.RowKit
set_option maxHeartbeats 400000
theorem ret_int {k : IntKind} {a b : Int} (h : a = b) : Ending.returned (.int k a) = .returned (.int k b) := by rw [h]
theorem operandSize_c (op : Int) (w : World) : Calls Tryd.prog 27 #[.int .i64 op] w fun e w' => e = .returned (.int .i64 (sizeOp op)) ∧ w = w' := by
  go_enter Tryd.func27, Tryd.ntmps27
  go_wp2
  all_goals go_ret
  all_goals refine ⟨ret_int ?_, rfl⟩
  all_goals simp_all [sizeOp]
  all_goals omega

theorem top_c (bm : Nat) (A : Option Addr) (l : List Int) (c : Nat) (d : Nat) (w : World) (hd : d ≤ 10) (hl : l.length ≤ 100) (hc : w.cell? ⟨bm, 2, none⟩ = some (.slice A l.length c)) (hs : Sl w .u16 A l) :
    Calls Tryd.prog 29 #[.pointer (some ⟨bm, 0, none⟩), .int .i64 d] w fun e w' => e = .returned (.int .u16 (topF l d)) ∧ w = w' := by
  by_cases h : d < l.length
  · have hi : l.length - 1 - d < l.length := by omega
    obtain ⟨b, o, x, rfl, hx, hcell⟩ := hs.at2 hi
    have ht : x = topF l d := by unfold topF; rw [if_pos h, hx.out]; rfl
    have HT := Lib.hid ht
    clear ht
    have e1 : ((l.length : Int) - 1 - (d : Int)).toNat = l.length - 1 - d := by omega
    have h0 : 0 ≤ (l.length : Int) - 1 - (d : Int) := by omega
    have h0' : (l.length : Int) - 1 - (d : Int) < l.length := by omega
    go_enter Tryd.func29, Tryd.ntmps29
    go_wp2
    go_ret
    exact ⟨ret_int HT.out, rfl⟩
  · have h0 : ¬ 0 ≤ (l.length : Int) - 1 - (d : Int) := by omega
    have ht : 0 = topF l d := by unfold topF; rw [if_neg h]
    have HT := Lib.hid ht
    clear ht
    go_enter Tryd.func29, Tryd.ntmps29
    go_wp2
    go_ret
    exact ⟨ret_int HT.out, rfl⟩
end Go.Proofs.YtpooedfchjpndaaDoor
