import Derived.Test.YtpooedfchjpndaaDoorBase
namespace Go.Proofs.YtpooedfchjpndaaDoor
open Go Go.RowKit
/-- A state of the stack machine, as plain data. -/
structure St where
  image : List Int
  at_ : Int
  data : List Int
  ret : List Int
  mem : List Int
  input : List Int
  output : List Int
  stop : Int
def I64 (n : Int) : Prop := -9223372036854775808 ≤ n ∧ n ≤ 9223372036854775807
def Half (l : List Int) : Prop := ∀ x ∈ l, 0 ≤ x ∧ x < 65536
/-- A cell that holds a slice of integers. -/
def SlAt (w : World) (k : IntKind) (o : Option Value) (l : List Int) : Prop :=
  ∃ A c, o = some (.slice A l.length c) ∧ l.length ≤ c ∧ c ≤ maxLen ∧ (A = none → c = 0) ∧ Sl w k A l
theorem SlAt.ext {w w' : World} {k : IntKind} {o : Option Value} {l : List Int} (h : SlAt w k o l) (e : Ext w w') : SlAt w' k o l := by
  obtain ⟨A, c, h1, h2, h3, h4, h5⟩ := h
  exact ⟨A, c, h1, h2, h3, h4, h5.ext e⟩
structure StWf (s : St) : Prop where
  image : Byt s.image
  at_ : I64 s.at_
  data : Half s.data
  ret : ∀ x ∈ s.ret, I64 x
  mem : Half s.mem
  memlen : s.mem.length = 32
  input : Byt s.input
  output : Byt s.output
  stop : I64 s.stop
structure StIs (w : World) (cs : Array Value) (s : St) : Prop where
  size : cs.size = 39
  image : SlAt w .u8 cs[0]? s.image
  at_ : cs[1]? = some (.int .i64 s.at_)
  data : SlAt w .u16 cs[2]? s.data
  ret : SlAt w .i64 cs[3]? s.ret
  mem : ∀ i, i < 32 → cs[4 + i]? = some (.int .u16 (s.mem[i]?.getD 0))
  input : SlAt w .u8 cs[36]? s.input
  output : SlAt w .u8 cs[37]? s.output
  stop : cs[38]? = some (.int .i64 s.stop)
  wf : StWf s
theorem StIs.ext {w w' : World} {cs : Array Value} {s : St} (h : StIs w cs s) (e : Ext w w') : StIs w' cs s :=
  ⟨h.size, h.image.ext e, h.at_, h.data.ext e, h.ret.ext e, h.mem, h.input.ext e, h.output.ext e, h.stop, h.wf⟩
def badIdx (l : List Int) : Option Nat := l.findIdx? fun n => decide (n < 0 ∨ 256 < n)
def faultOf (s : St) : Int × Int :=
  if 256 < s.image.length ∨ 1000 < s.input.length ∨ 1000 < s.output.length then (3, -1)
  else if 16 < s.data.length ∨ 8 < s.ret.length then (2, -1)
  else if s.at_ < 0 ∨ 256 < s.at_ ∨ s.stop < 0 ∨ 7 < s.stop then (4, -1)
  else match badIdx s.ret with
    | some i => (4, i)
    | none => (0, 0)
end Go.Proofs.YtpooedfchjpndaaDoor
