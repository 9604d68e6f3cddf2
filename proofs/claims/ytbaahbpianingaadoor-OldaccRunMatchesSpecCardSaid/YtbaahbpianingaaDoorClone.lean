import Derived.Test.YtbaahbpianingaaDoorBase
import Derived.Test.YtbaahbpianingaaDoorMac
namespace Go.Proofs.YtbaahbpianingaaDoor
open Go Go.Proofs Go.RowKit
set_option maxHeartbeats 1000000
def CloneRet (w : World) (e : TypeId) (k : IntKind) (l : List Int) (r : Ending) (w' : World) : Prop :=
  ∃ v, r = .returned v ∧ w'.ownsRow w.heap.size e 1 v l.length (l.map (Value.int k)) ∧ Ext w w'
theorem Clone8_c (A : Option Addr) (l : List Int) (c : Nat) (w : World) (hl : l.length ≤ 2000) (h : Sl w .u8 A l) (hA : A = none → c = 0) :
    Calls Tryd.prog 41 #[.slice A l.length c] w (CloneRet w 5 .u8 l) := by
  obtain ⟨i0, hi, hz0, hz1, hz2⟩ := info_parts infoB
  cases A with
  | none =>
    have hl0 : l = [] := by
      cases l with
      | nil => rfl
      | cons x r => obtain ⟨a, ha, _⟩ := h.one (i := 0) rfl; cases ha
    subst hl0
    obtain rfl := hA rfl
    have he := Lib.run_eql_slice_nil (P := Tryd.prog) w 23 5 none 0 0 0 0 Tryd.underlying23
    go_enter Tryd.func41, Tryd.ntmps41
    go_wp2
    go_ret
    exact ⟨_, rfl, World.ownsRow_nil _ _ _ _, Ext.refl _⟩
  | some a =>
    have he := Lib.run_eql_slice_nil (P := Tryd.prog) w 23 5 (some a) l.length c 0 0 Tryd.underlying23
    go_enter Tryd.func41, Tryd.ntmps41
    go_wp2_with (at_builtin; refine wpList_append_sl rfl _ _ 23 rfl w.heap.size 5 i0 (.int .u8 0) 1 1 Tryd.underlying23 hi hz0 hz1 hz2 rfl (by decide) _ 0 [] rfl (World.ownsRow_made _ _ 0 (Nat.le_refl _) (by simp [maxLen]) (by simp)) (some a) l.length c (l.map (Value.int .u8)) rfl (SlC.ext h ((Ext.refl _).alloc _)) (by simp) ints_one ?_ ?_ ?_ ?_)
    case _ => unfold maxLen; omega
    case _ => omega
    case _ => simp
    intro v' w1 ho hg hat
    go_wp2
    go_ret
    refine ⟨v', rfl, by simpa using ho, ?_⟩
    exact Below.grown ((Ext.refl w).alloc _) hg (by simp) (fun k hk => by simp [Value.ownBlock] at hk; omega)
end Go.Proofs.YtbaahbpianingaaDoor
