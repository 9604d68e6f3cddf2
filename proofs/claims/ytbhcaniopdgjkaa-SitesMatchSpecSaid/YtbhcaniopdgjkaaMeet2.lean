import Derived.Test.YtbhcaniopdgjkaaMeet
namespace Go.Proofs.Ytbhcaniopdgjkaa
open Go Go.Proofs Go.RowKit
set_option maxHeartbeats 800000
theorem ContainsFunc_c (A : Option Addr) (l : List Int) (c : Nat) (B : Nat) (p : Int → Bool) (w : World) (hl : l.length ≤ maxLen) (h1 : Sl w .i64 A l)
    (hp : ∀ x, Calls Try.prog 84 #[.int .i64 x, .pointer (some ⟨B, 0, none⟩)] w fun e w' => e = .returned (.bool (p x)) ∧ w = w') :
    Calls Try.prog 83 #[.slice A l.length c, .func (.func 84) #[] #[.pointer (some ⟨B, 0, none⟩)]] w fun e w' => e = .returned (.bool (l.any p)) ∧ w = w' := by
  have HC := Lib.hid (IndexFunc_c A l c B p w hl h1 hp)
  clear hp
  obtain ⟨r, hr⟩ : ∃ r, l.any p = r := ⟨_, rfl⟩
  rw [hr] at HC ⊢
  clear hr
  go_enter Try.func83, Try.ntmps83
  go_wp2_with (go_at_call 92; refine HC.out.mono ?_; rintro e w' ⟨i, rfl, hi, rfl⟩)
  go_ret
  exact ⟨rfl, rfl⟩
def BRet (w : World) (b : Bool) (e : Ending) (w' : World) : Prop := e = .returned (.bool b) ∧ Ext w w'
theorem meet_c (A D : Option Addr) (l m : List Int) (c d : Nat) (w : World) (hl : l.length ≤ maxLen) (hm : m.length ≤ maxLen) (h1 : Sl w .i64 A l) (h2 : Sl w .i64 D m) :
    Calls Try.prog 51 #[.slice A l.length c, .slice D m.length d] w (BRet w (meetsB l m)) := by
  have hx : Ext w (w.alloc (.cells #[.slice D m.length d] 23)) := (Ext.refl w).alloc _
  have hcell : (w.alloc (.cells #[.slice D m.length d] 23)).cell? ⟨w.heap.size, 0, none⟩ = some (.slice D m.length d) := by simp
  have HC := Lib.hid (ContainsFunc_c A l c w.heap.size (hasB m) _ hl (h1.ext hx) fun x => meet1_c x w.heap.size D m d _ hm (h2.ext hx) hcell)
  have HX := Lib.hid hx
  clear hx hcell
  go_enter Try.func51, Try.ntmps51
  go_wp2_with (go_at_call 83; refine HC.out.mono ?_; rintro e w' ⟨rfl, rfl⟩)
  go_ret
  exact ⟨rfl, HX.out⟩
end Go.Proofs.Ytbhcaniopdgjkaa
