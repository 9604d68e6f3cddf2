import Derived.Test.YtnijfndpefkoeaaRnC
namespace Go.Proofs.Ytnijfndpefkoeaa
open Go Go.Proofs Go.RowKit
open Ren (E lessE atE swapE UpAt DnAt DnIs Heap Child par)
set_option maxHeartbeats 6400000
set_option maxRecDepth 100000
theorem infoO : (Try.prog.info? 70).map (fun i => (i.zero, i.size, i.bytes)) = some (some (.agg #[.int .i64 0, .int .i64 0]), 2, 16) := by kernel_rfl
/-- The queue: block B holds its row. -/
def QIs (W : World) (B : Nat) (q : List E) : Prop := ∃ v, W.heap[B]? = some (.cells #[v] 72 (0, 0)) ∧ W.ownsRow (B - 1) 70 2 v q.length (prsV q) ∧ v.ownBlock ≠ some B
theorem Len_c (A : Option Addr) (n c : Nat) (w : World) : Calls Try.prog 35 #[.slice A n c] w fun e w' => e = .returned (.int .i64 (n : Int)) ∧ w = w' := by
  go_enter Try.func35, Try.ntmps35
  go_wp2
  go_ret
  exact ⟨rfl, rfl⟩
theorem at_of {q : List E} {i : Nat} (h : i < q.length) : q[i]? = some (atE q i) := Ren.at_get h
theorem Less_c (A : Option Addr) (q : List E) (c i k : Nat) (w : World) (h : Prs w A q) (hi : i < q.length) (hk : k < q.length) :
    Calls Try.prog 64 #[.slice A q.length c, .int .i64 (i : Int), .int .i64 (k : Int)] w fun e w' => e = .returned (.bool (lessE (atE q i) (atE q k))) ∧ ∃ d, w' = w.drewN d := by
  obtain ⟨b, o, rfl, i0, i1⟩ := h.at_ (at_of hi)
  obtain ⟨b', o', he, k0, k1⟩ := h.at_ (at_of hk)
  cases he
  obtain ⟨x, hx⟩ : ∃ x, atE q i = x := ⟨_, rfl⟩
  obtain ⟨y, hy⟩ : ∃ y, atE q k = y := ⟨_, rfl⟩
  rw [hx] at i0 i1
  rw [hy] at k0 k1
  rw [hx, hy]
  obtain ⟨n, hn⟩ : ∃ n, n = q.length := ⟨_, rfl⟩
  rw [← hn] at hi hk ⊢
  obtain ⟨x0, x1⟩ := x
  obtain ⟨y0, y1⟩ := y
  simp only at i0 i1 k0 k1
  clear hx hy hn h
  by_cases h1 : x0 < y0
  · have HE : Hid (true = lessE (x0, x1) (y0, y1)) := Lib.hid (by simp [lessE, h1])
    have e1 : decide (x0 < y0) = true := decide_eq_true h1
    clear h1
    go_enter Try.func64, Try.ntmps64
    go_wp2
    go_region
    all_goals go_wp2
    all_goals go_ret
    all_goals exact ⟨ret_bool HE.out, by first | exact ⟨0, rfl⟩ | exact ⟨1, rfl⟩⟩
  · have e1 : decide (x0 < y0) = false := decide_eq_false h1
    by_cases h2 : x0 = y0
    · subst h2
      have HE : Hid (decide (x1 < y1) = lessE (x0, x1) (x0, y1)) := Lib.hid (by simp [lessE])
      clear h1
      go_enter Try.func64, Try.ntmps64
      go_wp2
      go_region
      all_goals go_wp2
      all_goals go_ret
      all_goals exact ⟨ret_bool HE.out, by first | exact ⟨0, rfl⟩ | exact ⟨1, rfl⟩⟩
    · have e2 : (x0 == y0) = false := by simpa using h2
      have HE : Hid (false = lessE (x0, x1) (y0, y1)) := Lib.hid (by simp [lessE, h2]; omega)
      clear h1 h2
      go_enter Try.func64, Try.ntmps64
      go_wp2
      go_region
      all_goals go_wp2
      all_goals go_ret
      all_goals exact ⟨ret_bool HE.out, by first | exact ⟨0, rfl⟩ | exact ⟨1, rfl⟩⟩
theorem prsV_swap {q : List E} {i k : Nat} (hi : i < q.length) (hk : k < q.length) : prsV (swapE q i k) = ((((prsV q).set (i * 2) (.int .i64 (atE q k).1)).set (i * 2 + 1) (.int .i64 (atE q k).2)).set (k * 2) (.int .i64 (atE q i).1)).set (k * 2 + 1) (.int .i64 (atE q i).2) := by
  unfold swapE
  rw [prsV_set _ _ _ (by rw [List.length_set]; exact hk), prsV_set _ _ _ hi]
/-- The row's block, and nothing else, has been written. -/
def SwapRet (w : World) (base g n cap : Nat) (q2 : List E) (e : Ending) (w' : World) : Prop := e = .returned (.tuple #[]) ∧ (∃ cur', OwnBlk w' base 70 g n cap cur' (prsV q2)) ∧ w.grownBy w' (some g)
theorem Swap_ne (q : List E) (base g cap : Nat) (cur : Array Value) (i k : Nat) (w : World) (h : OwnBlk w base 70 g q.length cap cur (prsV q)) (hi : i < q.length) (hk : k < q.length) (hne : i ≠ k) :
    Calls Try.prog 67 #[.slice (some ⟨g, 0, none⟩) q.length cap, .int .i64 (i : Int), .int .i64 (k : Int)] w (SwapRet w base g q.length cap (swapE q i k)) := by
  obtain ⟨i0, i1⟩ := prsV_get q i _ (at_of hi)
  obtain ⟨k0, k1⟩ := prsV_get q k _ (at_of hk)
  have ci0 := h.cell i0
  have ci1 := h.cell i1
  have ck0 := h.cell k0
  have ck1 := h.cell k1
  have fi0 := blk_frozen h.blk (i * 2)
  have fi1 := blk_frozen h.blk (i * 2 + 1)
  have fk0 := blk_frozen h.blk (k * 2)
  have fk1 := blk_frozen h.blk (k * 2 + 1)
  have hsw := prsV_swap hi hk
  have hbk := (((((h.set (i * 2) (.int .i64 (atE q k).1)).set (i * 2 + 1) (.int .i64 (atE q k).2)).set (k * 2) (.int .i64 (atE q i).1)).set (k * 2 + 1) (.int .i64 (atE q i).2)))
  rw [← hsw] at hbk
  have HQ : Hid (∃ cur', OwnBlk ((((w.setCell ⟨g, i * 2, none⟩ (.int .i64 (atE q k).1)).setCell ⟨g, i * 2 + 1, none⟩ (.int .i64 (atE q k).2)).setCell ⟨g, k * 2, none⟩ (.int .i64 (atE q i).1)).setCell ⟨g, k * 2 + 1, none⟩ (.int .i64 (atE q i).2)).drew base 70 g q.length cap cur' (prsV (swapE q i k))) := Lib.hid ⟨_, hbk.drew⟩
  have HG := Lib.hid (grown_tr (grown_set4 w g (i * 2) (i * 2 + 1) (k * 2) (k * 2 + 1) (.int .i64 (atE q k).1) (.int .i64 (atE q k).2) (.int .i64 (atE q i).1) (.int .i64 (atE q i).2)) (grown_drew _ _))
  clear hsw hbk
  obtain ⟨x, hx⟩ : ∃ x, atE q i = x := ⟨_, rfl⟩
  obtain ⟨y, hy⟩ : ∃ y, atE q k = y := ⟨_, rfl⟩
  rw [hx] at ci0 ci1 HQ HG
  rw [hy] at ck0 ck1 HQ HG
  obtain ⟨n, hn⟩ : ∃ n, n = q.length := ⟨_, rfl⟩
  rw [← hn] at hi hk HQ ⊢
  obtain ⟨x0, x1⟩ := x
  obtain ⟨y0, y1⟩ := y
  simp only at ci0 ci1 ck0 ck1 HQ HG
  have n1 : ¬ (i * 2 = k * 2) := by omega
  have n2 : ¬ (i * 2 + 1 = k * 2) := by omega
  have n3 : ¬ (i * 2 = k * 2 + 1) := by omega
  have n4 : ¬ (k * 2 = i * 2) := by omega
  have n5 : ¬ (k * 2 + 1 = i * 2) := by omega
  have n6 : ¬ (k * 2 = i * 2 + 1) := by omega
  have n7 : ¬ (k = i) := by omega
  clear hx hy hn h i0 i1 k0 k1
  go_enter Try.func67, Try.ntmps67
  go_wp2
  go_region
  all_goals refine bodyPost_end (results_none Try.results67 _ _ _) rfl ⟨rfl, HQ.out, HG.out⟩
theorem Swap_eq (q : List E) (base g cap : Nat) (cur : Array Value) (i : Nat) (w : World) (h : OwnBlk w base 70 g q.length cap cur (prsV q)) (hi : i < q.length) :
    Calls Try.prog 67 #[.slice (some ⟨g, 0, none⟩) q.length cap, .int .i64 (i : Int), .int .i64 (i : Int)] w (SwapRet w base g q.length cap (swapE q i i)) := by
  obtain ⟨i0, i1⟩ := prsV_get q i _ (at_of hi)
  have ci0 := h.cell i0
  have ci1 := h.cell i1
  have fi0 := blk_frozen h.blk (i * 2)
  have fi1 := blk_frozen h.blk (i * 2 + 1)
  have hsw := prsV_swap hi hi
  have hbk := (((((h.set (i * 2) (.int .i64 (atE q i).1)).set (i * 2 + 1) (.int .i64 (atE q i).2)).set (i * 2) (.int .i64 (atE q i).1)).set (i * 2 + 1) (.int .i64 (atE q i).2)))
  rw [← hsw] at hbk
  have HQ : Hid (∃ cur', OwnBlk ((((w.setCell ⟨g, i * 2, none⟩ (.int .i64 (atE q i).1)).setCell ⟨g, i * 2 + 1, none⟩ (.int .i64 (atE q i).2)).setCell ⟨g, i * 2, none⟩ (.int .i64 (atE q i).1)).setCell ⟨g, i * 2 + 1, none⟩ (.int .i64 (atE q i).2)).drew base 70 g q.length cap cur' (prsV (swapE q i i))) := Lib.hid ⟨_, hbk.drew⟩
  have HG := Lib.hid (grown_tr (grown_set4 w g (i * 2) (i * 2 + 1) (i * 2) (i * 2 + 1) (.int .i64 (atE q i).1) (.int .i64 (atE q i).2) (.int .i64 (atE q i).1) (.int .i64 (atE q i).2)) (grown_drew _ _))
  clear hsw hbk
  obtain ⟨x, hx⟩ : ∃ x, atE q i = x := ⟨_, rfl⟩
  rw [hx] at ci0 ci1 HQ HG
  obtain ⟨n, hn⟩ : ∃ n, n = q.length := ⟨_, rfl⟩
  rw [← hn] at hi HQ ⊢
  obtain ⟨x0, x1⟩ := x
  simp only at ci0 ci1 HQ HG
  clear hx hn h i0 i1
  go_enter Try.func67, Try.ntmps67
  go_wp2
  go_region
  all_goals refine bodyPost_end (results_none Try.results67 _ _ _) rfl ⟨rfl, HQ.out, HG.out⟩
theorem Swap_c (q : List E) (base g cap : Nat) (cur : Array Value) (i k : Nat) (w : World) (h : OwnBlk w base 70 g q.length cap cur (prsV q)) (hi : i < q.length) (hk : k < q.length) :
    Calls Try.prog 67 #[.slice (some ⟨g, 0, none⟩) q.length cap, .int .i64 (i : Int), .int .i64 (k : Int)] w (SwapRet w base g q.length cap (swapE q i k)) := by
  by_cases e : i = k
  · subst e; exact Swap_eq q base g cap cur i w h hi
  · exact Swap_ne q base g cap cur i k w h hi hk e
end Go.Proofs.Ytnijfndpefkoeaa
