import Derived.Test.YtpooedfchjpndaaDoorEffA
import Derived.Test.YtpooedfchjpndaaDoorObst
namespace Go.Proofs.YtpooedfchjpndaaDoor
open Go Go.Proofs Go.RowKit
/-- What a state is like in which the machine can go on. -/
structure OkSt (s : St) : Prop where
  wf : StWf s
  il : s.image.length ≤ 256
  inl : s.input.length ≤ 1000
  ol : s.output.length ≤ 1000
  dl : s.data.length ≤ 16
  rl : s.ret.length ≤ 8
  at0 : 0 ≤ s.at_
  at1 : s.at_ ≤ 256
  st0 : 0 ≤ s.stop
  st1 : s.stop ≤ 7
  ret : ∀ x ∈ s.ret, 0 ≤ x ∧ x ≤ 256
structure EffOk (s : St) (op n a b : Int) : Prop where
  op0 : 0 ≤ op
  op1 : op < 24
  hn : 0 ≤ n ∧ n < 65536
  ha : 0 ≤ a ∧ a < 65536
  hb : 0 ≤ b ∧ b < 65536
  div : op = 9 ∨ op = 10 → b ≠ 0
  mem : op = 20 ∨ op = 21 → b < 32
  ret : op = 19 → 1 ≤ s.ret.length
  rl : s.ret.length ≤ 8
  ol : s.output.length ≤ 1000
  input : Byt s.input
section
variable {w : World} {bm : Nat} {s : St} {cs : Array Value} {vd vr vo : Value}
theorem effects_c (h : MachIs w bm s cs vd vr vo) (op n a b : Int) (k : EffOk s op n a b) : Calls Tryd.prog 30 #[.pointer (some ⟨bm, 0, none⟩), .int .i64 op, .int .i64 n, .int .u16 a, .int .u16 b] w (EffRet w bm vd (effF s op n a b)) := by
  have h0 := k.op0
  have h1 := k.op1
  by_cases hc : 6 ≤ op ∧ op ≤ 15
  · exact effC h op n a b hc k.ha k.hb k.div
  obtain rfl | rfl | rfl | rfl | rfl | rfl | rfl | rfl | rfl | rfl | rfl | rfl | rfl | rfl : op = 0 ∨ op = 1 ∨ op = 2 ∨ op = 3 ∨ op = 4 ∨ op = 5 ∨ op = 16 ∨ op = 17 ∨ op = 18 ∨ op = 19 ∨ op = 20 ∨ op = 21 ∨ op = 22 ∨ op = 23 := by omega
  · exact eff0 h n a b
  · exact eff1 h n a b k.hn
  · exact eff2 h n a b
  · exact eff3 h n a b
  · exact eff4 h n a b
  · exact eff5 h n a b
  · exact eff16 h n a b
  · exact eff17 h n a b
  · exact eff18 h n a b k.rl
  · exact eff19 h n a b ⟨k.ret rfl, k.rl⟩
  · exact eff20 h n a b ⟨k.hb.1, k.mem (.inl rfl)⟩
  · exact eff21 h n a b ⟨k.hb.1, k.mem (.inr rfl)⟩
  · exact eff22 h n a b k.input
  · exact eff23 h n a b k.hb k.ol
end
end Go.Proofs.YtpooedfchjpndaaDoor
