import Derived.Test.YtnijfndpefkoeaaRnB
namespace Go.Proofs.Ytnijfndpefkoeaa
open Go Go.Proofs Go.RowKit
set_option maxHeartbeats 3200000
set_option maxRecDepth 100000
/-- The cells of a struct of two numbers; of a row of them. -/
def prV (p : Int × Int) : List Value := [.int .i64 p.1, .int .i64 p.2]
def prsV (L : List (Int × Int)) : List Value := L.flatMap prV
theorem prsV_cons (p : Int × Int) (L : List (Int × Int)) : prsV (p :: L) = prV p ++ prsV L := rfl
theorem prsV_append (L M : List (Int × Int)) : prsV (L ++ M) = prsV L ++ prsV M := by unfold prsV; rw [List.flatMap_append]
theorem prsV_snoc (L : List (Int × Int)) (p : Int × Int) : prsV (L ++ [p]) = prsV L ++ prV p := by
  rw [prsV_append]
  show _ ++ (prV p ++ []) = _
  rw [List.append_nil]
theorem prsV_len : ∀ L : List (Int × Int), (prsV L).length = L.length * 2
  | [] => rfl
  | p :: L => by rw [prsV_cons, List.length_append, prsV_len L, List.length_cons]; show 2 + _ = _; omega
theorem prsV_get : ∀ (L : List (Int × Int)) (i : Nat) (p : Int × Int), L[i]? = some p → (prsV L)[i * 2]? = some (.int .i64 p.1) ∧ (prsV L)[i * 2 + 1]? = some (.int .i64 p.2)
  | [], i, p, h => by simp at h
  | q :: L, 0, p, h => by
    have : q = p := by simpa using h
    subst this
    exact ⟨rfl, rfl⟩
  | q :: L, i + 1, p, h => by
    have ih := prsV_get L i p (by simpa using h)
    rw [prsV_cons, show (i + 1) * 2 = 2 + i * 2 by omega]
    rw [List.getElem?_append_right (by show 2 ≤ _; omega), List.getElem?_append_right (by show 2 ≤ _; omega)]
    show (prsV L)[2 + i * 2 - 2]? = _ ∧ (prsV L)[2 + i * 2 + 1 - 2]? = _
    rw [show 2 + i * 2 - 2 = i * 2 by omega, show 2 + i * 2 + 1 - 2 = i * 2 + 1 by omega]
    exact ih
theorem prsV_set : ∀ (L : List (Int × Int)) (i : Nat) (p : Int × Int), i < L.length → prsV (L.set i p) = ((prsV L).set (i * 2) (.int .i64 p.1)).set (i * 2 + 1) (.int .i64 p.2)
  | [], i, p, h => by simp at h
  | q :: L, 0, p, h => rfl
  | q :: L, i + 1, p, h => by
    have ih := prsV_set L i p (by simpa using h)
    rw [List.set_cons_succ, prsV_cons, prsV_cons, ih, show (i + 1) * 2 = i * 2 + 1 + 1 by omega]
    rfl
theorem prV_one (p : Int × Int) : ∀ u ∈ prV p, u.oneCell' = true := by
  intro u hu
  simp only [prV, List.mem_cons, List.not_mem_nil, or_false] at hu
  rcases hu with rfl | rfl <;> rfl
def Prs (w : World) (A : Option Addr) (L : List (Int × Int)) : Prop := SlC w A (prsV L)
theorem Prs.ext {w w' : World} {A : Option Addr} {L : List (Int × Int)} (h : Prs w A L) (e : Ext w w') : Prs w' A L := SlC.ext h e
theorem Prs.at_ {w : World} {A : Option Addr} {L : List (Int × Int)} (h : Prs w A L) {i : Nat} {p : Int × Int} (hp : L[i]? = some p) :
    ∃ b o, A = some ⟨b, o, none⟩ ∧ w.cell? ⟨b, o + i * 2, none⟩ = some (.int .i64 p.1) ∧ w.cell? ⟨b, o + i * 2 + 1, none⟩ = some (.int .i64 p.2) := by
  have hi := (List.getElem?_eq_some_iff.1 hp).1
  obtain ⟨b, o, rfl⟩ := SlC.base h (by rw [prsV_len]; omega)
  obtain ⟨g0, g1⟩ := prsV_get L i p hp
  obtain ⟨a0, e0, c0⟩ := h _ _ g0
  obtain ⟨a1, e1, c1⟩ := h _ _ g1
  cases e0
  cases e1
  rw [add_off] at c0 c1
  exact ⟨b, o, rfl, c0, c1⟩
/-- A row of one's own, as a block. -/
structure OwnBlk (w : World) (base : Nat) (e : TypeId) (g n cap : Nat) (cur : Array Value) (xs : List Value) : Prop where
  ge : base ≤ g
  blk : w.heap[g]? = some (.cells cur e (0, 0))
  nc : n ≤ cap
  cm : cap ≤ maxLen
  take : cur.toList.take (n * 2) = xs
  size : cur.size = cap * 2
theorem own_blk {w : World} {base : Nat} {e : TypeId} {v : Value} {n : Nat} {xs : List Value} (h : w.ownsRow base e 2 v n xs) (hn : 0 < n) : ∃ g cap cur, v = .slice (some ⟨g, 0, none⟩) n cap ∧ OwnBlk w base e g n cap cur xs := by
  rcases h.2 with ⟨_, h0⟩ | ⟨g, cap, cur, hv, h1, h2, h3, h4, h5, h6⟩
  · omega
  · exact ⟨g, cap, cur, hv, h1, h2, h3, h4, h6, h5⟩
theorem OwnBlk.own {w : World} {base : Nat} {e : TypeId} {g n cap : Nat} {cur : Array Value} {xs : List Value} (h : OwnBlk w base e g n cap cur xs) (hl : xs.length = n * 2) : w.ownsRow base e 2 (.slice (some ⟨g, 0, none⟩) n cap) n xs :=
  ⟨hl, .inr ⟨g, cap, cur, rfl, h.ge, h.blk, h.nc, h.cm, h.size, h.take⟩⟩
theorem OwnBlk.cell {w : World} {base : Nat} {e : TypeId} {g n cap : Nat} {cur : Array Value} {xs : List Value} (h : OwnBlk w base e g n cap cur xs) {j : Nat} {u : Value} (hu : xs[j]? = some u) : w.cell? ⟨g, j, none⟩ = some u := by
  rw [blk_cell h.blk j, ← Array.getElem?_toList]
  rw [← h.take, List.getElem?_take] at hu
  split at hu
  · exact hu
  · cases hu
theorem OwnBlk.set {w : World} {base : Nat} {e : TypeId} {g n cap : Nat} {cur : Array Value} {xs : List Value} (h : OwnBlk w base e g n cap cur xs) (j : Nat) (u : Value) : OwnBlk (w.setCell ⟨g, j, none⟩ u) base e g n cap (cur.setIfInBounds j u) (xs.set j u) := by
  refine ⟨h.ge, heap_set_self h.blk j u, h.nc, h.cm, ?_, by rw [Array.size_setIfInBounds]; exact h.size⟩
  rw [Array.toList_setIfInBounds, ← h.take, List.take_set]
theorem OwnBlk.drew {w : World} {base : Nat} {e : TypeId} {g n cap : Nat} {cur : Array Value} {xs : List Value} (h : OwnBlk w base e g n cap cur xs) : OwnBlk w.drew base e g n cap cur xs := ⟨h.ge, h.blk, h.nc, h.cm, h.take, h.size⟩
theorem grown_set (w : World) (g j : Nat) (u : Value) : w.grownBy (w.setCell ⟨g, j, none⟩ u) (some g) :=
  ⟨rfl, rfl, rfl, by simp [World.setCell], fun k _ hne => Below.heap_setCell w ⟨g, j, none⟩ u k (fun q => hne (by rw [q]))⟩
theorem grown_drew (w : World) (r : Option Nat) : w.grownBy w.drew r := ⟨rfl, rfl, rfl, Nat.le_refl _, fun _ _ _ => rfl⟩
theorem grown_tr {w w1 w2 : World} {r : Option Nat} (h : w.grownBy w1 r) (k : w1.grownBy w2 r) : w.grownBy w2 r :=
  ⟨k.os.trans h.os, k.tape.trans h.tape, k.output.trans h.output, Nat.le_trans h.size k.size, fun g hg hne => (k.block g (Nat.lt_of_lt_of_le hg h.size) hne).trans (h.block g hg hne)⟩
theorem grown_set4 (w : World) (g a b c d : Nat) (x y z u : Value) : w.grownBy ((((w.setCell ⟨g, a, none⟩ x).setCell ⟨g, b, none⟩ y).setCell ⟨g, c, none⟩ z).setCell ⟨g, d, none⟩ u) (some g) :=
  grown_tr (grown_tr (grown_tr (grown_set w g a x) (grown_set _ g b y)) (grown_set _ g c z)) (grown_set _ g d u)
end Go.Proofs.Ytnijfndpefkoeaa
