import Derived.Test.YtbhcaniopdgjkaaPof1
namespace Go.Proofs.Ytbhcaniopdgjkaa
open Go Go.Proofs Go.RowKit
open Plain (SiteD)
set_option maxHeartbeats 1000000
set_option maxRecDepth 100000
theorem fold_range_succ {α : Type} (f : α → Nat → α) (a : α) (k : Nat) : (List.range (k + 1)).foldl f a = f ((List.range k).foldl f a) k := by
  rw [List.range_succ, List.foldl_append]; rfl
/-- The labels of a round, so far. -/
def rowTo (L : List SiteD) (i k : Nat) (f : Nat → Nat) : Nat → Nat := (List.range k).foldl (Plain.relax (adjF L) i) f
def roundTo (L : List SiteD) (i : Nat) (f : Nat → Nat) : Nat → Nat := (List.range i).foldl (fun g i => Plain.row (adjF L) L.length i g) f
theorem rowTo_succ (L : List SiteD) (i k : Nat) (f : Nat → Nat) : rowTo L i (k + 1) f = Plain.relax (adjF L) i (rowTo L i k f) k := fold_range_succ _ _ _
theorem rowTo_all (L : List SiteD) (i : Nat) (f : Nat → Nat) : rowTo L i L.length f = Plain.row (adjF L) L.length i f := rfl
theorem roundTo_succ (L : List SiteD) (i : Nat) (f : Nat → Nat) : roundTo L (i + 1) f = Plain.row (adjF L) L.length i (roundTo L i f) := fold_range_succ _ _ _
theorem roundTo_all (L : List SiteD) (f : Nat → Nat) : roundTo L L.length f = Plain.round (adjF L) L.length f := rfl
end Go.Proofs.Ytbhcaniopdgjkaa
