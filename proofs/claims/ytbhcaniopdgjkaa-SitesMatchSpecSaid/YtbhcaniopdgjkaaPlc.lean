import Derived.Test.YtbhcaniopdgjkaaPrt4
namespace Go.Proofs.Ytbhcaniopdgjkaa
open Go Go.Proofs Go.RowKit
open Plain (SiteD)
set_option maxHeartbeats 1000000
set_option maxRecDepth 100000
/-- The three places of the check at the start. -/
def plL : List SiteD := [⟨[97], [1], 5, 0⟩, ⟨[98], [1, 2], 3, 50⟩, ⟨[99], [3], 4, 0⟩]
def PlRet (w : World) (e : Ending) (w' : World) : Prop := ∃ b, e = .returned (.slice (some ⟨b, 0, none⟩) 3 3) ∧ Sites w' (some ⟨b, 0, none⟩) plL ∧ Ext w w'
theorem sl_blk {w : World} {b : Nat} {l : List Int} (h : w.heap[b]? = some (.cells (l.map (Value.int .i64)).toArray 3 (0, 0))) : Sl w .i64 (some ⟨b, 0, none⟩) l := by
  refine Sl.mk fun i x hx => ⟨_, rfl, ?_⟩
  have hadd : (⟨b, 0, none⟩ : Addr).add i = ⟨b, i, none⟩ := by unfold Addr.add; split <;> simp_all
  rw [hadd, blk_cell h]
  simp [hx]
def plW (w : World) : World :=
  ((((w.alloc (.cells #[.int .i64 1] 3)).alloc (.cells #[.int .i64 1, .int .i64 2] 3)).alloc (.cells #[.int .i64 3] 3)).alloc
      (.cells #[.string ⟨#[97]⟩, .slice (some ⟨w.heap.size, 0, none⟩) 1 1, .int .i64 5, .int .i64 0, .string ⟨#[98]⟩, .slice (some ⟨w.heap.size + 1, 0, none⟩) 2 2, .int .i64 3, .int .i64 50, .string ⟨#[99]⟩, .slice (some ⟨w.heap.size + 1 + 1, 0, none⟩) 1 1, .int .i64 4, .int .i64 0] 52))
theorem places_sites (w : World) : Sites (plW w) (some ⟨w.heap.size + 1 + 1 + 1, 0, none⟩) plL := by
  have b0 : (plW w).heap[w.heap.size]? = some (.cells (([1] : List Int).map (Value.int .i64)).toArray 3 (0, 0)) := by
    unfold plW
    simp only [alloc_heap, alloc_size]
    rw [if_neg (by omega), if_neg (by omega), if_neg (by omega), if_pos trivial]; rfl
  have b1 : (plW w).heap[w.heap.size + 1]? = some (.cells (([1, 2] : List Int).map (Value.int .i64)).toArray 3 (0, 0)) := by
    unfold plW
    simp only [alloc_heap, alloc_size]
    rw [if_neg (by omega), if_neg (by omega), if_pos trivial]; rfl
  have b2 : (plW w).heap[w.heap.size + 1 + 1]? = some (.cells (([3] : List Int).map (Value.int .i64)).toArray 3 (0, 0)) := by
    unfold plW
    simp only [alloc_heap, alloc_size]
    rw [if_neg (by omega), if_pos trivial]; rfl
  have b3 : (plW w).heap[w.heap.size + 1 + 1 + 1]? = some (.cells #[.string ⟨#[97]⟩, .slice (some ⟨w.heap.size, 0, none⟩) 1 1, .int .i64 5, .int .i64 0, .string ⟨#[98]⟩, .slice (some ⟨w.heap.size + 1, 0, none⟩) 2 2, .int .i64 3, .int .i64 50, .string ⟨#[99]⟩, .slice (some ⟨w.heap.size + 1 + 1, 0, none⟩) 1 1, .int .i64 4, .int .i64 0] 52 (0, 0)) := by
    unfold plW
    simp only [alloc_heap, alloc_size]
    rw [if_pos trivial]
  intro i s hs
  refine ⟨_, _, rfl, ?_⟩
  match i, hs with
  | 0, hs =>
    cases hs
    exact ⟨⟨⟨#[97]⟩, blk_cell b3 0, rfl, by decide⟩, ⟨_, 1, blk_cell b3 1, by decide, by decide, (fun h => by cases h), sl_blk b0⟩, blk_cell b3 2, blk_cell b3 3, by unfold I64; decide, by unfold I64; decide⟩
  | 1, hs =>
    cases hs
    exact ⟨⟨⟨#[98]⟩, blk_cell b3 4, rfl, by decide⟩, ⟨_, 2, blk_cell b3 5, by decide, by decide, (fun h => by cases h), sl_blk b1⟩, blk_cell b3 6, blk_cell b3 7, by unfold I64; decide, by unfold I64; decide⟩
  | 2, hs =>
    cases hs
    exact ⟨⟨⟨#[99]⟩, blk_cell b3 8, rfl, by decide⟩, ⟨_, 1, blk_cell b3 9, by decide, by decide, (fun h => by cases h), sl_blk b2⟩, blk_cell b3 10, blk_cell b3 11, by unfold I64; decide, by unfold I64; decide⟩
  | n + 3, hs => simp [plL] at hs
theorem places_c (w : World) : Calls Try.prog 54 #[] w (PlRet w) := by
  go_enter Try.func54, Try.ntmps54
  go_wp2
  refine bodyPost_ret (v := .slice (some ⟨w.heap.size + 1 + 1 + 1, 0, none⟩) 3 3) (results_tmp Try.results54 _ _ _) rfl ⟨_, rfl, places_sites w, ((((Ext.refl w).alloc _).alloc _).alloc _).alloc _⟩
end Go.Proofs.Ytbhcaniopdgjkaa
