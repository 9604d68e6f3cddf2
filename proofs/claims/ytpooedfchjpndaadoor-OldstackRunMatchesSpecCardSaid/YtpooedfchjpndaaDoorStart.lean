import Derived.Test.YtpooedfchjpndaaDoorValid
import Derived.Test.YtpooedfchjpndaaDoorModel
import Derived.Laws.ResultCell
namespace Go.Proofs.YtpooedfchjpndaaDoor
open Go Go.Proofs Go.RowKit
set_option maxHeartbeats 1600000
set_option maxRecDepth 100000
def st0 : St := ⟨[], 0, [], [], List.replicate 32 0, [], [], 0⟩
def zeroSt : Array Value := #[.slice none 0 0, .int .i64 0, .slice none 0 0, .slice none 0 0] ++ (Array.replicate 32 (.int .u16 0)) ++ #[.slice none 0 0, .slice none 0 0, .int .i64 0]
theorem byt_nil : Byt [] := fun x hx => by simp at hx
theorem st0_wf : StWf st0 := ⟨byt_nil, ⟨by decide, by decide⟩, fun x hx => by simp [st0] at hx, fun x hx => by simp [st0] at hx, fun x hx => by simp [st0] at hx; omega, rfl, byt_nil, byt_nil, ⟨by decide, by decide⟩⟩
theorem slAt_nil (w : World) (k : IntKind) : SlAt w k (some (.slice none 0 0)) [] := ⟨none, 0, rfl, Nat.le_refl _, by simp [maxLen], fun _ => rfl, SlC.nil _ _⟩
theorem zero_is (w : World) : StIs w zeroSt st0 := by
  refine ⟨by decide, slAt_nil w _, rfl, slAt_nil w _, slAt_nil w _, ?_, slAt_nil w _, slAt_nil w _, rfl, st0_wf⟩
  intro i hi
  have hm : st0.mem[i]?.getD 0 = 0 := by
    show (List.replicate 32 (0 : Int))[i]?.getD 0 = 0
    rw [List.getElem?_replicate, if_pos hi]; rfl
  rw [hm, zeroSt, Array.getElem?_append_left (by rw [Array.size_append, Array.size_replicate]; simp; omega), Array.getElem?_append_right (by simp)]
  rw [Array.getElem?_replicate, if_pos (by simp; omega)]
end Go.Proofs.YtpooedfchjpndaaDoor
