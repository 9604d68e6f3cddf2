import Derived.Test.YtbaahbpianingaaDoorEff5
import Derived.Laws.EntriesVeiled
namespace Go.Proofs.YtbaahbpianingaaDoor
open Go Go.Proofs Go.RowKit
open Acc (Dk red five)
set_option maxHeartbeats 4000000
set_option maxRecDepth 100000
/-- The operations, bound to the machine's variable. -/
def effA (g : Nat) : Array Value := #[.func (.func 93) #[] #[.pointer (some ⟨g, 0, none⟩)], .func (.func 94) #[] #[.pointer (some ⟨g, 0, none⟩)], .func (.func 95) #[] #[.pointer (some ⟨g, 0, none⟩)], .func (.func 96) #[] #[.pointer (some ⟨g, 0, none⟩)], .func (.func 98) #[] #[.pointer (some ⟨g, 0, none⟩)], .func (.func 99) #[] #[.pointer (some ⟨g, 0, none⟩)], .func (.func 101) #[] #[.pointer (some ⟨g, 0, none⟩)], .func (.func 102) #[] #[.pointer (some ⟨g, 0, none⟩)], .func (.func 104) #[] #[.pointer (some ⟨g, 0, none⟩)], .func (.func 105) #[] #[.pointer (some ⟨g, 0, none⟩)], .func (.func 106) #[] #[.pointer (some ⟨g, 0, none⟩)], .func (.func 107) #[] #[.pointer (some ⟨g, 0, none⟩)], .func (.func 108) #[] #[.pointer (some ⟨g, 0, none⟩)], .func (.func 109) #[] #[.pointer (some ⟨g, 0, none⟩)], .func (.func 111) #[] #[.pointer (some ⟨g, 0, none⟩)], .func (.func 112) #[] #[.pointer (some ⟨g, 0, none⟩)], .func (.func 114) #[] #[.pointer (some ⟨g, 0, none⟩)], .func (.func 115) #[] #[.pointer (some ⟨g, 0, none⟩)]]
def zeroEff : Array Value := #[.nilFunc, .nilFunc, .nilFunc, .nilFunc, .nilFunc, .nilFunc, .nilFunc, .nilFunc, .nilFunc, .nilFunc, .nilFunc, .nilFunc, .nilFunc, .nilFunc, .nilFunc, .nilFunc, .nilFunc, .nilFunc]
theorem run_build_eff (g : Nat) (w : World) : (Instr.build 101 #[(0, .func (.func 93) #[] #[.pointer (some ⟨g, 0, none⟩)]), (1, .func (.func 94) #[] #[.pointer (some ⟨g, 0, none⟩)]), (2, .func (.func 95) #[] #[.pointer (some ⟨g, 0, none⟩)]), (3, .func (.func 96) #[] #[.pointer (some ⟨g, 0, none⟩)]), (4, .func (.func 98) #[] #[.pointer (some ⟨g, 0, none⟩)]), (5, .func (.func 99) #[] #[.pointer (some ⟨g, 0, none⟩)]), (6, .func (.func 101) #[] #[.pointer (some ⟨g, 0, none⟩)]), (7, .func (.func 102) #[] #[.pointer (some ⟨g, 0, none⟩)]), (8, .func (.func 104) #[] #[.pointer (some ⟨g, 0, none⟩)]), (9, .func (.func 105) #[] #[.pointer (some ⟨g, 0, none⟩)]), (10, .func (.func 106) #[] #[.pointer (some ⟨g, 0, none⟩)]), (11, .func (.func 107) #[] #[.pointer (some ⟨g, 0, none⟩)]), (12, .func (.func 108) #[] #[.pointer (some ⟨g, 0, none⟩)]), (13, .func (.func 109) #[] #[.pointer (some ⟨g, 0, none⟩)]), (14, .func (.func 111) #[] #[.pointer (some ⟨g, 0, none⟩)]), (15, .func (.func 112) #[] #[.pointer (some ⟨g, 0, none⟩)]), (16, .func (.func 114) #[] #[.pointer (some ⟨g, 0, none⟩)]), (17, .func (.func 115) #[] #[.pointer (some ⟨g, 0, none⟩)])]).run Tryd.prog w = .ok (.agg (effA g)) w := by kernel_rfl
theorem size_eff (g : Nat) : (Tryd.prog.info? 101).map (·.size) = some (effA g).size := by kernel_rfl
theorem one_eff (g : Nat) : (effA g).all (·.oneCell') = true := by kernel_rfl
theorem effects_c (bm : Nat) (w : World) : Calls Tryd.prog 69 #[.pointer (some ⟨bm, 0, none⟩)] w fun e w' => e = .returned (.agg (effA w.heap.size)) ∧ Ext w w' ∧ Caught w' w.heap.size bm := by
  have hb := fun W => run_build_eff w.heap.size W
  go_enter Tryd.func69, Tryd.ntmps69
  go_wp2_with (refine wpList_store_row rfl 101 _ _ rfl (w.heap.size + 1) (effA w.heap.size) rfl rfl 101 _ (heap_alloc2_new w _ _) (size_eff _) rfl (one_eff _) ?_)
  have h1 := heap_alloc2_new w (.cells #[.pointer (some ⟨bm, 0, none⟩)] 73) (.cells zeroEff 101)
  refine bodyPost_ret (results_cell_row Tryd.results69 _ _ (w.heap.size + 1) 101 (effA w.heap.size) (0, 0) _ rfl (setRow_heap _ _ _ _ _ _ h1) Tryd.underlying101 rfl (size_eff _)) rfl ⟨rfl, ?_, ?_⟩
  · exact Below.trans (((Ext.refl w).alloc _).alloc _) ⟨rfl, rfl, rfl, by simp [World.setRow], fun k hk => setRow_other _ _ k _ (by omega)⟩
  · unfold Caught
    rw [World.cell?_of_block (setRow_other _ _ _ _ (by show w.heap.size ≠ w.heap.size + 1; omega)), World.cell?_of_block (Below.heap_alloc _ _ _ (by show w.heap.size < (w.alloc _).heap.size; simp))]
    exact cell_of_row _ _ 0 _ _ _ (heap_alloc_new w _)
/-- The operations' values, bound to a new variable that holds the machine. -/
def EffsRet (w : World) (bm : Nat) (e : Ending) (w' : World) : Prop := ∃ g, e = .returned (.agg (effA g)) ∧ w.heap.size ≤ g ∧ Ext w w' ∧ Caught w' g bm
theorem effs_c (bm : Nat) (w : World) : Calls Tryd.prog 69 #[.pointer (some ⟨bm, 0, none⟩)] w (EffsRet w bm) :=
  (effects_c bm w).mono fun _ _ ⟨h1, h2, h3⟩ => ⟨_, h1, Nat.le_refl _, h2, h3⟩
theorem ok_next {s : Dk} (ok : OkSt s) {i : Nat} (hi : i < 100) (hat : s.at_ = i) : OkSt { s with at_ := s.at_ + 1 } :=
  ⟨{ ok.ok with at_ := by show 0 ≤ s.at_ + 1 ∧ s.at_ + 1 ≤ 100; omega }, ok.outb⟩
end Go.Proofs.YtbaahbpianingaaDoor
