import Derived.Test.YtnijfndpefkoeaaRnR
namespace Go.Proofs.Ytnijfndpefkoeaa
open Go Go.Proofs Go.RowKit
open Ren (E lessE atE swapE UpAt DnAt DnIs Heap Child par)
set_option maxHeartbeats 3200000
set_option maxRecDepth 100000
theorem met_push (B : Nat) (w : World) : (method 206 71 (.pointer (some ⟨B, 0, none⟩)) "Push").run Try.prog w = .ok (66, .pointer (some ⟨B, 0, none⟩)) w := by kernel_rfl
theorem met_pop (B : Nat) (w : World) : (method 206 71 (.pointer (some ⟨B, 0, none⟩)) "Pop").run Try.prog w = .ok (65, .pointer (some ⟨B, 0, none⟩)) w := by kernel_rfl
theorem met_len0 (B : Nat) (w : World) : (method 206 71 (.pointer (some ⟨B, 0, none⟩)) "Len").run Try.prog w = (do let r ← loadVar 72 ⟨B, 0, none⟩; pure (35, r)).run Try.prog w := by kernel_rfl
theorem met_less0 (B : Nat) (w : World) : (method 206 71 (.pointer (some ⟨B, 0, none⟩)) "Less").run Try.prog w = (do let r ← loadVar 72 ⟨B, 0, none⟩; pure (64, r)).run Try.prog w := by kernel_rfl
theorem met_swap0 (B : Nat) (w : World) : (method 206 71 (.pointer (some ⟨B, 0, none⟩)) "Swap").run Try.prog w = (do let r ← loadVar 72 ⟨B, 0, none⟩; pure (67, r)).run Try.prog w := by kernel_rfl
theorem load_q {w : World} {B : Nat} {v : Value} (h : w.cell? ⟨B, 0, none⟩ = some v) : (loadVar 72 ⟨B, 0, none⟩).run Try.prog w = .ok v w := by
  simp [loadVar, Sem.run_bind, Try.isAgg72, h]
theorem met_len {w : World} {B : Nat} {v : Value} (h : w.cell? ⟨B, 0, none⟩ = some v) : (method 206 71 (.pointer (some ⟨B, 0, none⟩)) "Len").run Try.prog w = .ok (35, v) w := by
  rw [met_len0, Sem.run_bind, load_q h]; rfl
theorem met_less {w : World} {B : Nat} {v : Value} (h : w.cell? ⟨B, 0, none⟩ = some v) : (method 206 71 (.pointer (some ⟨B, 0, none⟩)) "Less").run Try.prog w = .ok (64, v) w := by
  rw [met_less0, Sem.run_bind, load_q h]; rfl
theorem met_swap {w : World} {B : Nat} {v : Value} (h : w.cell? ⟨B, 0, none⟩ = some v) : (method 206 71 (.pointer (some ⟨B, 0, none⟩)) "Swap").run Try.prog w = .ok (67, v) w := by
  rw [met_swap0, Sem.run_bind, load_q h]; rfl
/-- The queue, laid open. -/
structure QOp (w : World) (B : Nat) (q : List E) (g cap : Nat) (cur : Array Value) : Prop where
  b : w.heap[B]? = some (.cells #[.slice (some ⟨g, 0, none⟩) q.length cap] 72 (0, 0))
  o : OwnBlk w (B - 1) 70 g q.length cap cur (prsV q)
  n : g ≠ B
theorem qis_open {w : World} {B : Nat} {q : List E} (h : QIs w B q) (hn : 0 < q.length) : ∃ g cap cur, QOp w B q g cap cur := by
  obtain ⟨v, hb, ho, hv⟩ := h
  obtain ⟨g, cap, cur, rfl, hO⟩ := own_blk ho hn
  exact ⟨g, cap, cur, hb, hO, fun q => hv (by rw [q]; rfl)⟩
theorem QOp.prs {w : World} {B : Nat} {q : List E} {g cap : Nat} {cur : Array Value} (h : QOp w B q g cap cur) : Prs w (some ⟨g, 0, none⟩) q := by
  intro j u hu
  refine ⟨_, rfl, ?_⟩
  rw [add_off, Nat.zero_add]
  exact h.o.cell hu
theorem QOp.drewN {w : World} {B : Nat} {q : List E} {g cap : Nat} {cur : Array Value} (h : QOp w B q g cap cur) (d : Nat) : QOp (w.drewN d) B q g cap cur := ⟨h.b, ⟨h.o.ge, h.o.blk, h.o.nc, h.o.cm, h.o.take, h.o.size⟩, h.n⟩
theorem QOp.qis {w : World} {B : Nat} {q : List E} {g cap : Nat} {cur : Array Value} (h : QOp w B q g cap cur) : QIs w B q := ⟨_, h.b, h.o.own (prsV_len q), fun q => h.n (by injection q)⟩
theorem QOp.cell {w : World} {B : Nat} {q : List E} {g cap : Nat} {cur : Array Value} (h : QOp w B q g cap cur) : w.cell? ⟨B, 0, none⟩ = some (.slice (some ⟨g, 0, none⟩) q.length cap) := blk_cell h.b 0
theorem qis_swap {w W : World} {B : Nat} {q q2 : List E} {g cap : Nat} {cur : Array Value} (h : QOp w B q g cap cur) {e : Ending} (hs : SwapRet w (B - 1) g q.length cap q2 e W) (hl : q2.length = q.length) : (∃ cur', QOp W B q2 g cap cur') ∧ Below (B - 1) w W := by
  obtain ⟨_, ⟨cur', hO⟩, hg⟩ := hs
  have hlt := (Array.getElem?_eq_some_iff.1 h.b).1
  have hne : g ≠ B := h.n
  refine ⟨⟨cur', ⟨?_, by rw [hl]; exact hO, hne⟩⟩, Below.grown (Below.refl (B - 1) w) hg (by omega) (fun k hk => by cases hk; exact h.o.ge)⟩
  rw [hg.block B hlt (fun q => hne (by injection q with q; exact q.symm)), hl]
  exact h.b
end Go.Proofs.Ytnijfndpefkoeaa
