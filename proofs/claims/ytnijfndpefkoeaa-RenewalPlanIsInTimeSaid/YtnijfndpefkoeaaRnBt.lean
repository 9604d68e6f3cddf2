import Derived.Test.YtnijfndpefkoeaaRnZ
namespace Go.Proofs.Ytnijfndpefkoeaa
open Go Go.Proofs Go.RowKit
set_option maxHeartbeats 6400000
set_option maxRecDepth 100000
theorem better_c (A B : Option Addr) (a b : List Int) (x y : Int) (c d : Nat) (w : World) (ha : a.length ≤ 2000) (hb : b.length ≤ 2000) (h1 : Sl w .i64 A a) (h2 : Sl w .i64 B b) :
    Calls Try.prog 32 #[.agg #[.slice A a.length c, .int .i64 x], .agg #[.slice B b.length d, .int .i64 y]] w (BRet w (Ren.betB (a, x) (b, y))) := by
  obtain ⟨r, hr⟩ : ∃ r, r = Ren.betB (a, x) (b, y) := ⟨_, rfl⟩
  have hr0 := hr
  unfold Ren.betB at hr
  simp only at hr
  rw [← hr0]
  clear hr0
  have X2 : ∀ u v : Obj, Ext w ((w.alloc u).alloc v) := fun u v => ((Ext.refl w).alloc u).alloc v
  have HCM := fun (W : World) (e : Ext w W) => Compare_c A B a b c d W (by unfold maxLen; omega) (by unfold maxLen; omega) (h1.ext e) (h2.ext e)
  have HC := Lib.hid HCM
  obtain ⟨p, hp⟩ : ∃ p, p = a.length := ⟨_, rfl⟩
  obtain ⟨q, hq⟩ : ∃ q, q = b.length := ⟨_, rfl⟩
  rw [← hp, ← hq] at HC hr
  rw [← hp] at ha ⊢
  rw [← hq] at hb ⊢
  clear HCM h1 h2 hp hq
  by_cases hxy : x = y
  · subst hxy
    rw [if_pos rfl] at hr
    by_cases hpq : p = q
    · subst hpq
      rw [if_pos rfl] at hr
      have HR := Lib.hid hr
      clear hr
      go_enter Try.func32, Try.ntmps32
      go_wp2_with (go_at_call 41; refine (HC.out _ (X2 _ _)).mono ?_; rintro e w' ⟨cc, rfl, hcc, rfl⟩; have HCC := Lib.hid hcc; clear hcc)
      go_ret
      exact ⟨ret_bool (HCC.out.trans HR.out.symm), X2 _ _⟩
    · rw [if_neg hpq] at hr
      have hne : ((p : Int) != (q : Int)) = true := by simp; omega
      have hlt : decide (p < q) = r := by rw [hr]
      have HR := Lib.hid hlt
      clear hr hlt
      go_enter Try.func32, Try.ntmps32
      go_wp2
      go_ret
      exact ⟨ret_bool HR.out, X2 _ _⟩
  · rw [if_neg hxy] at hr
    have hne : (x != y) = true := by simpa using hxy
    have HR := Lib.hid hr
    clear hr hxy
    go_enter Try.func32, Try.ntmps32
    go_wp2
    go_ret
    exact ⟨ret_bool HR.out.symm, X2 _ _⟩
end Go.Proofs.Ytnijfndpefkoeaa
