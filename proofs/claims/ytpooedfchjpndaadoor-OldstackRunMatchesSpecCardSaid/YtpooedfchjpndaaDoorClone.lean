import Derived.Test.YtpooedfchjpndaaDoorStr
namespace Go.Proofs.YtpooedfchjpndaaDoor
open Go Go.Proofs Go.RowKit
set_option maxHeartbeats 400000

def CloneRet (w : World) (e : TypeId) (k : IntKind) (l : List Int) (r : Ending) (w' : World) : Prop :=
  ∃ v, r = .returned v ∧ w'.ownsRow w.heap.size e 1 v l.length (l.map (Value.int k)) ∧ Ext w w'
theorem Clone8_c (A : Option Addr) (l : List Int) (c : Nat) (w : World) (hl : l.length ≤ 2000) (h : Sl w .u8 A l) (hA : A = none → c = 0) :
    Calls Tryd.prog 20 #[.slice A l.length c] w (CloneRet w 5 .u8 l) := by
  obtain ⟨i0, hi, hz0, hz1, hz2⟩ := info_parts info5
  cases A with
  | none =>
    have hl0 : l = [] := by
      cases l with
      | nil => rfl
      | cons x r => obtain ⟨a, ha, _⟩ := h.one (i := 0) rfl; cases ha
    subst hl0
    obtain rfl := hA rfl
    have he := Lib.run_eql_slice_nil (P := Tryd.prog) w 22 5 none 0 0 0 0 Tryd.underlying22
    go_enter Tryd.func20, Tryd.ntmps20
    go_wp2
    go_ret
    exact ⟨_, rfl, World.ownsRow_nil _ _ _ _, Ext.refl _⟩
  | some a =>
    have he := Lib.run_eql_slice_nil (P := Tryd.prog) w 22 5 (some a) l.length c 0 0 Tryd.underlying22
    go_enter Tryd.func20, Tryd.ntmps20
    go_wp2_with (at_builtin; refine wpList_append_sl rfl _ _ 22 rfl w.heap.size 5 i0 (.int .u8 0) 1 1 Tryd.underlying22 hi hz0 hz1 hz2 rfl (by decide) _ 0 [] rfl (World.ownsRow_made _ _ 0 (Nat.le_refl _) (by simp [maxLen]) (by simp)) (some a) l.length c (l.map (Value.int .u8)) rfl (SlC.ext h ((Ext.refl _).alloc _)) (by simp) ints_one ?_ ?_ ?_ ?_)
    case _ => unfold maxLen; omega
    case _ => omega
    case _ => simp
    intro v' w1 ho hg hat
    go_wp2
    go_ret
    refine ⟨v', rfl, ho, ?_⟩
    exact Below.grown ((Ext.refl w).alloc _) hg (by simp) (fun k hk => by simp [Value.ownBlock] at hk; omega)
theorem Clone16_c (A : Option Addr) (l : List Int) (c : Nat) (w : World) (hl : l.length ≤ 2000) (h : Sl w .u16 A l) (hA : A = none → c = 0) :
    Calls Tryd.prog 23 #[.slice A l.length c] w (CloneRet w 25 .u16 l) := by
  obtain ⟨i0, hi, hz0, hz1, hz2⟩ := info_parts info25
  cases A with
  | none =>
    have hl0 : l = [] := by
      cases l with
      | nil => rfl
      | cons x r => obtain ⟨a, ha, _⟩ := h.one (i := 0) rfl; cases ha
    subst hl0
    obtain rfl := hA rfl
    have he := Lib.run_eql_slice_nil (P := Tryd.prog) w 23 25 none 0 0 0 0 Tryd.underlying23
    go_enter Tryd.func23, Tryd.ntmps23
    go_wp2
    go_ret
    exact ⟨_, rfl, World.ownsRow_nil _ _ _ _, Ext.refl _⟩
  | some a =>
    have he := Lib.run_eql_slice_nil (P := Tryd.prog) w 23 25 (some a) l.length c 0 0 Tryd.underlying23
    go_enter Tryd.func23, Tryd.ntmps23
    go_wp2_with (at_builtin; refine wpList_append_sl rfl _ _ 23 rfl w.heap.size 25 i0 (.int .u16 0) 1 2 Tryd.underlying23 hi hz0 hz1 hz2 rfl (by decide) _ 0 [] rfl (World.ownsRow_made _ _ 0 (Nat.le_refl _) (by simp [maxLen]) (by simp)) (some a) l.length c (l.map (Value.int .u16)) rfl (SlC.ext h ((Ext.refl _).alloc _)) (by simp) ints_one ?_ ?_ ?_ ?_)
    case _ => unfold maxLen; omega
    case _ => omega
    case _ => simp
    intro v' w1 ho hg hat
    go_wp2
    go_ret
    refine ⟨v', rfl, ho, ?_⟩
    exact Below.grown ((Ext.refl w).alloc _) hg (by simp) (fun k hk => by simp [Value.ownBlock] at hk; omega)
theorem Clone64_c (A : Option Addr) (l : List Int) (c : Nat) (w : World) (hl : l.length ≤ 2000) (h : Sl w .i64 A l) (hA : A = none → c = 0) :
    Calls Tryd.prog 24 #[.slice A l.length c] w (CloneRet w 3 .i64 l) := by
  obtain ⟨i0, hi, hz0, hz1, hz2⟩ := info_parts info3
  cases A with
  | none =>
    have hl0 : l = [] := by
      cases l with
      | nil => rfl
      | cons x r => obtain ⟨a, ha, _⟩ := h.one (i := 0) rfl; cases ha
    subst hl0
    obtain rfl := hA rfl
    have he := Lib.run_eql_slice_nil (P := Tryd.prog) w 24 3 none 0 0 0 0 Tryd.underlying24
    go_enter Tryd.func24, Tryd.ntmps24
    go_wp2
    go_ret
    exact ⟨_, rfl, World.ownsRow_nil _ _ _ _, Ext.refl _⟩
  | some a =>
    have he := Lib.run_eql_slice_nil (P := Tryd.prog) w 24 3 (some a) l.length c 0 0 Tryd.underlying24
    go_enter Tryd.func24, Tryd.ntmps24
    go_wp2_with (at_builtin; refine wpList_append_sl rfl _ _ 24 rfl w.heap.size 3 i0 (.int .i64 0) 1 8 Tryd.underlying24 hi hz0 hz1 hz2 rfl (by decide) _ 0 [] rfl (World.ownsRow_made _ _ 0 (Nat.le_refl _) (by simp [maxLen]) (by simp)) (some a) l.length c (l.map (Value.int .i64)) rfl (SlC.ext h ((Ext.refl _).alloc _)) (by simp) ints_one ?_ ?_ ?_ ?_)
    case _ => unfold maxLen; omega
    case _ => omega
    case _ => simp
    intro v' w1 ho hg hat
    go_wp2
    go_ret
    refine ⟨v', rfl, ho, ?_⟩
    exact Below.grown ((Ext.refl w).alloc _) hg (by simp) (fun k hk => by simp [Value.ownBlock] at hk; omega)
end Go.Proofs.YtpooedfchjpndaaDoor
