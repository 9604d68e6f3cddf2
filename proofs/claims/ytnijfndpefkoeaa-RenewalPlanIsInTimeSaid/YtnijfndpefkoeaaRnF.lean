import Derived.Test.YtnijfndpefkoeaaRnB
import Derived.Test.YtnijfndpefkoeaaShelf
namespace Go.Proofs.Ytnijfndpefkoeaa
open Go Go.Proofs Go.RowKit
set_option maxHeartbeats 1600000
set_option maxRecDepth 100000
/-- A row of the call's own comes back. -/
def CloneAt (w : World) (e : TypeId) (size n : Nat) (xs : List Value) (r : Ending) (w' : World) : Prop := ∃ v, r = .returned v ∧ w'.ownsRow w.heap.size e size v n xs ∧ Ext w w'
theorem CloneI_c (A : Option Addr) (l : List Int) (c : Nat) (w : World) (hl : l.length ≤ 2000) (h : SlC w A (l.map (Value.int .i64))) (hA : A = none → c = 0) :
    Calls Try.prog 31 #[.slice A l.length c] w (CloneAt w 3 1 l.length (l.map (Value.int .i64))) := by
  obtain ⟨i0, hi, hz0, hz1, hz2⟩ := info_parts infoI
  cases A with
  | none =>
    have hl0 : l = [] := by
      cases l with
      | nil => rfl
      | cons x r => obtain ⟨a, ha, _⟩ := h 0 _ rfl; cases ha
    subst hl0
    obtain rfl := hA rfl
    have he := Lib.run_eql_slice_nil (P := Try.prog) w 29 3 none 0 0 0 0 Try.underlying29
    go_enter Try.func31, Try.ntmps31
    go_wp2
    go_ret
    exact ⟨_, rfl, World.ownsRow_nil _ _ _ _, Ext.refl _⟩
  | some a =>
    have he := Lib.run_eql_slice_nil (P := Try.prog) w 29 3 (some a) l.length c 0 0 Try.underlying29
    go_enter Try.func31, Try.ntmps31
    go_wp2_with (at_builtin; refine wpList_append_sl rfl _ _ 29 rfl w.heap.size 3 i0 (.int .i64 0) 1 8 Try.underlying29 hi hz0 hz1 hz2 rfl (by decide) _ 0 [] rfl (World.ownsRow_made _ _ 0 (Nat.le_refl _) (by simp [maxLen]) (by simp)) (some a) l.length c (l.map (Value.int .i64)) rfl (SlC.ext h ((Ext.refl _).alloc _)) (by simp) (ints_one) ?_ ?_ ?_ ?_)
    case _ => unfold maxLen; omega
    case _ => omega
    case _ => simp
    intro v' w1 ho hg hat
    go_wp2
    go_ret
    refine ⟨v', rfl, by simpa using ho, ?_⟩
    exact Below.grown ((Ext.refl w).alloc _) hg (by simp) (fun k hk => by simp [Value.ownBlock] at hk; omega)
end Go.Proofs.Ytnijfndpefkoeaa
