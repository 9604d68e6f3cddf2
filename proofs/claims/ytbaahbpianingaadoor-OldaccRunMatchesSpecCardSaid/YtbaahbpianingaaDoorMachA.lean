import Derived.Test.YtbaahbpianingaaDoorBase
import Derived.Test.YtbaahbpianingaaDoorAccS
namespace Go.Proofs.YtbaahbpianingaaDoor
open Go Go.RowKit
open Acc (Dk)
def I64 (n : Int) : Prop := -9223372036854775808 ≤ n ∧ n ≤ 9223372036854775807
theorem own_lt {w : World} {base : Nat} {e : TypeId} {size n : Nat} {v : Value} {xs : List Value} (h : w.ownsRow base e size v n xs) {g : Nat} (hg : v.ownBlock = some g) : base ≤ g ∧ g < w.heap.size := h.lt g hg
theorem own_keep {w w' : World} {base : Nat} {e : TypeId} {size n : Nat} {v : Value} {xs : List Value} (h : w.ownsRow base e size v n xs) (hk : ∀ g, v.ownBlock = some g → w'.heap[g]? = w.heap[g]?) : w'.ownsRow base e size v n xs := by
  refine ⟨h.1, ?_⟩
  rcases h.2 with hn | ⟨g, cap, cur, rfl, hb, hgg, rest⟩
  · exact .inl hn
  · exact .inr ⟨g, cap, cur, rfl, hb, by rw [hk g rfl]; exact hgg, rest⟩
theorem block_add (a : Addr) (n : Nat) : (a.add n).block = a.block := by unfold Addr.add; split <;> rfl
/-- A slice that reads as these cells, none of them in a bad block. -/
def SlF (w : World) (A : Option Addr) (xs : List Value) (bad : Nat → Prop) : Prop :=
  ∀ i u, xs[i]? = some u → ∃ a, A = some a ∧ w.cell? (a.add i) = some u ∧ ¬ bad a.block
theorem SlF.sl {w : World} {A : Option Addr} {xs : List Value} {bad : Nat → Prop} (h : SlF w A xs bad) : SlC w A xs := by
  intro i u hu
  obtain ⟨a, h1, h2, _⟩ := h i u hu
  exact ⟨a, h1, h2⟩
theorem SlF.keep {w w' : World} {A : Option Addr} {xs : List Value} {bad bad' : Nat → Prop} (h : SlF w A xs bad)
    (hk : ∀ g, ¬ bad g → g < w.heap.size → w'.heap[g]? = w.heap[g]?) (hb : ∀ g, g < w.heap.size → bad' g → bad g) : SlF w' A xs bad' := by
  intro i u hu
  obtain ⟨a, h1, h2, h3⟩ := h i u hu
  have hlt := World.block_lt_of_cell? w _ h2
  rw [block_add] at hlt
  refine ⟨a, h1, ?_, fun hb' => h3 (hb _ hlt hb')⟩
  rw [World.cell?_of_block (w := w) (by rw [block_add]; exact hk _ h3 hlt)]
  exact h2
/-- A cell that holds a slice of integers. -/
def SlAt (w : World) (k : IntKind) (o : Option Value) (l : List Int) : Prop :=
  ∃ A c, o = some (.slice A l.length c) ∧ l.length ≤ c ∧ c ≤ maxLen ∧ (A = none → c = 0) ∧ Sl w k A l
theorem SlAt.ext {w w' : World} {k : IntKind} {o : Option Value} {l : List Int} (h : SlAt w k o l) (e : Ext w w') : SlAt w' k o l := by
  obtain ⟨A, c, h1, h2, h3, h4, h5⟩ := h
  exact ⟨A, c, h1, h2, h3, h4, h5.ext e⟩
/-- A field that holds a slice of integers, away from the machine's own rows. -/
def SlFAt (w : World) (k : IntKind) (o : Option Value) (l : List Int) (bad : Nat → Prop) : Prop :=
  ∃ A c, o = some (.slice A l.length c) ∧ l.length ≤ c ∧ c ≤ maxLen ∧ (A = none → c = 0) ∧ SlF w A (l.map (Value.int k)) bad
theorem SlFAt.keep {w w' : World} {k : IntKind} {o : Option Value} {l : List Int} {bad bad' : Nat → Prop} (h : SlFAt w k o l bad)
    (hk : ∀ g, ¬ bad g → g < w.heap.size → w'.heap[g]? = w.heap[g]?) (hb : ∀ g, g < w.heap.size → bad' g → bad g) : SlFAt w' k o l bad' := by
  obtain ⟨A, c, h1, h2, h3, h4, h5⟩ := h
  exact ⟨A, c, h1, h2, h3, h4, h5.keep hk hb⟩
/-- The plain data of a state that a program may hold. -/
structure DkWf (s : Dk) : Prop where
  len : s.words.length = 100
  words : ∀ n ∈ s.words, I64 n
  at_ : I64 s.at_
  a : I64 s.a
  q : I64 s.q
  x : I64 s.x
  input : Byt s.input
  output : Byt s.output
  stop : I64 s.stop
/-- The cells of a state. -/
structure DkIs (w : World) (cs : Array Value) (s : Dk) : Prop where
  size : cs.size = 108
  words : ∀ i, i < 100 → cs[i]? = some (.int .i64 (s.words[i]?.getD 0))
  at_ : cs[100]? = some (.int .i64 s.at_)
  a : cs[101]? = some (.int .i64 s.a)
  q : cs[102]? = some (.int .i64 s.q)
  x : cs[103]? = some (.int .i64 s.x)
  ov : cs[104]? = some (.bool s.ov)
  input : SlAt w .u8 cs[105]? s.input
  output : SlAt w .u8 cs[106]? s.output
  stop : cs[107]? = some (.int .i64 s.stop)
  wf : DkWf s
theorem DkIs.ext {w w' : World} {cs : Array Value} {s : Dk} (h : DkIs w cs s) (e : Ext w w') : DkIs w' cs s :=
  ⟨h.size, h.words, h.at_, h.a, h.q, h.x, h.ov, h.input.ext e, h.output.ext e, h.stop, h.wf⟩
def Bad (bm : Nat) (vo : Value) (g : Nat) : Prop := g ≤ bm ∨ vo.ownBlock = some g
/-- The machine's block: what its fields hold. -/
structure MachIs (w : World) (bm : Nat) (s : Dk) (cs : Array Value) (vo : Value) : Prop where
  blk : w.heap[bm]? = some (.cells cs 75 (0, 0))
  size : cs.size = 108
  words : ∀ i, i < 100 → cs[i]? = some (.int .i64 (s.words[i]?.getD 0))
  at_ : cs[100]? = some (.int .i64 s.at_)
  a : cs[101]? = some (.int .i64 s.a)
  q : cs[102]? = some (.int .i64 s.q)
  x : cs[103]? = some (.int .i64 s.x)
  ov : cs[104]? = some (.bool s.ov)
  input : SlFAt w .u8 cs[105]? s.input (Bad bm vo)
  output : cs[106]? = some vo
  outputo : w.ownsRow bm 5 1 vo s.output.length (s.output.map (Value.int .u8))
  stop : cs[107]? = some (.int .i64 s.stop)
  len : s.words.length = 100
section
variable {w w' w1 : World} {bm : Nat} {s : Dk} {cs : Array Value} {vo : Value}
theorem own_ne {base g : Nat} {e t : TypeId} {size n : Nat} {v : Value} {xs : List Value} {cs : Array Value} {fr : Nat × Nat} (h : w.ownsRow base e size v n xs) (hg : w.heap[g]? = some (.cells cs t fr)) (hne : e ≠ t) : v.ownBlock ≠ some g := by
  rcases h.2 with ⟨rfl, _⟩ | ⟨g', cap, cur, rfl, _, hh, _⟩
  · simp [Value.ownBlock]
  · intro he
    have : g' = g := by simpa [Value.ownBlock] using he
    subst this
    rw [hh] at hg
    injection hg with hg
    injection hg with _ ht
    exact hne ht
theorem MachIs.lt (h : MachIs w bm s cs vo) : bm < w.heap.size := (Array.getElem?_eq_some_iff.1 h.blk).1
/-- All that the machine owns lies as it lay. -/
theorem MachIs.keep (h : MachIs w bm s cs vo) (hk : ∀ g, g < w.heap.size → w'.heap[g]? = w.heap[g]?) : MachIs w' bm s cs vo :=
  ⟨by rw [hk _ h.lt]; exact h.blk, h.size, h.words, h.at_, h.a, h.q, h.x, h.ov, h.input.keep (fun g _ hg => hk g hg) (fun _ _ x => x), h.output, own_keep h.outputo (fun g hg => hk g (own_lt h.outputo hg).2), h.stop, h.len⟩
theorem MachIs.ext (h : MachIs w bm s cs vo) (e : Ext w w') : MachIs w' bm s cs vo := h.keep fun g hg => e.block g hg
theorem MachIs.alloc (h : MachIs w bm s cs vo) (o : Obj) : MachIs (w.alloc o) bm s cs vo := h.ext ((Ext.refl w).alloc o)
theorem MachIs.drewN (h : MachIs w bm s cs vo) (n : Nat) : MachIs (w.drewN n) bm s cs vo := h.ext ((Ext.refl w).drewN n)
theorem MachIs.cell (h : MachIs w bm s cs vo) (i : Nat) : w.cell? ⟨bm, i, none⟩ = cs[i]? := cell_of_row w bm i cs 75 (0, 0) h.blk
theorem MachIs.frozen (h : MachIs w bm s cs vo) (i : Nat) : w.frozen? ⟨bm, i, none⟩ = false := by simp [World.frozen?, h.blk]
theorem heap_set_self {t : TypeId} (h : w.heap[bm]? = some (.cells cs t (0, 0))) (i : Nat) (u : Value) : (w.setCell ⟨bm, i, none⟩ u).heap[bm]? = some (.cells (cs.setIfInBounds i u) t (0, 0)) := by
  simp [World.setCell, Array.getElem?_modify, h]
theorem getD_set {i j : Nat} {u : Value} : (cs.setIfInBounds i u)[j]? = if i = j then (if i < cs.size then some u else none) else cs[j]? := by
  rw [Array.getElem?_setIfInBounds]
/-- A number, a truth or a word of the machine is set. -/
theorem MachIs.set (h : MachIs w bm s cs vo) (i : Nat) (u : Value) (s' : Dk)
    (ew : ∀ k, k < 100 → (if i = k then some u else some (.int .i64 (s.words[k]?.getD 0))) = some (.int .i64 (s'.words[k]?.getD 0))) (el : s'.words.length = 100)
    (e0 : (if i = 100 then some u else some (.int .i64 s.at_)) = some (.int .i64 s'.at_)) (e1 : (if i = 101 then some u else some (.int .i64 s.a)) = some (.int .i64 s'.a))
    (e2 : (if i = 102 then some u else some (.int .i64 s.q)) = some (.int .i64 s'.q)) (e3 : (if i = 103 then some u else some (.int .i64 s.x)) = some (.int .i64 s'.x))
    (e4 : (if i = 104 then some u else some (.bool s.ov)) = some (.bool s'.ov)) (e5 : i ≠ 105 ∧ s'.input = s.input) (e6 : i ≠ 106 ∧ s'.output = s.output)
    (e7 : (if i = 107 then some u else some (.int .i64 s.stop)) = some (.int .i64 s'.stop)) :
    MachIs (w.setCell ⟨bm, i, none⟩ u) bm s' (cs.setIfInBounds i u) vo := by
  have hsz := h.size
  have hk : ∀ g, g ≠ bm → (w.setCell ⟨bm, i, none⟩ u).heap[g]? = w.heap[g]? := fun g hg => Below.heap_setCell w ⟨bm, i, none⟩ u g hg
  have hkb : ∀ g, ¬ Bad bm vo g → g < w.heap.size → (w.setCell ⟨bm, i, none⟩ u).heap[g]? = w.heap[g]? := fun g hg _ => hk g (fun e => hg (.inl (Nat.le_of_eq e)))
  refine ⟨heap_set_self h.blk i u, by simpa using hsz, ?_, ?_, ?_, ?_, ?_, ?_, ?_, ?_, ?_, ?_, el⟩
  · intro k hk'; rw [getD_set, ← ew k hk', h.words k hk']; split
    · rw [if_pos (by omega)]
    · rfl
  · rw [getD_set, ← e0, h.at_]; split
    · rw [if_pos (by omega)]
    · rfl
  · rw [getD_set, ← e1, h.a]; split
    · rw [if_pos (by omega)]
    · rfl
  · rw [getD_set, ← e2, h.q]; split
    · rw [if_pos (by omega)]
    · rfl
  · rw [getD_set, ← e3, h.x]; split
    · rw [if_pos (by omega)]
    · rfl
  · rw [getD_set, ← e4, h.ov]; split
    · rw [if_pos (by omega)]
    · rfl
  · rw [e5.2, getD_set, if_neg e5.1]; exact h.input.keep hkb (fun _ _ x => x)
  · rw [getD_set, if_neg e6.1]; exact h.output
  · rw [e6.2]; exact own_keep h.outputo fun g hg => hk g (fun e => own_ne h.outputo h.blk (by decide) (by rw [hg, e]))
  · rw [getD_set, ← e7, h.stop]; split
    · rw [if_pos (by omega)]
    · rfl
theorem MachIs.setAt (h : MachIs w bm s cs vo) (n : Int) : MachIs (w.setCell ⟨bm, 100, none⟩ (.int .i64 n)) bm { s with at_ := n } (cs.setIfInBounds 100 (.int .i64 n)) vo :=
  h.set 100 _ _ (fun k hk => if_neg (by omega)) h.len rfl rfl rfl rfl rfl ⟨by omega, rfl⟩ ⟨by omega, rfl⟩ rfl
theorem MachIs.setA (h : MachIs w bm s cs vo) (n : Int) : MachIs (w.setCell ⟨bm, 101, none⟩ (.int .i64 n)) bm { s with a := n } (cs.setIfInBounds 101 (.int .i64 n)) vo :=
  h.set 101 _ _ (fun k hk => if_neg (by omega)) h.len rfl rfl rfl rfl rfl ⟨by omega, rfl⟩ ⟨by omega, rfl⟩ rfl
theorem MachIs.setQ (h : MachIs w bm s cs vo) (n : Int) : MachIs (w.setCell ⟨bm, 102, none⟩ (.int .i64 n)) bm { s with q := n } (cs.setIfInBounds 102 (.int .i64 n)) vo :=
  h.set 102 _ _ (fun k hk => if_neg (by omega)) h.len rfl rfl rfl rfl rfl ⟨by omega, rfl⟩ ⟨by omega, rfl⟩ rfl
theorem MachIs.setX (h : MachIs w bm s cs vo) (n : Int) : MachIs (w.setCell ⟨bm, 103, none⟩ (.int .i64 n)) bm { s with x := n } (cs.setIfInBounds 103 (.int .i64 n)) vo :=
  h.set 103 _ _ (fun k hk => if_neg (by omega)) h.len rfl rfl rfl rfl rfl ⟨by omega, rfl⟩ ⟨by omega, rfl⟩ rfl
theorem MachIs.setOv (h : MachIs w bm s cs vo) (b : Bool) : MachIs (w.setCell ⟨bm, 104, none⟩ (.bool b)) bm { s with ov := b } (cs.setIfInBounds 104 (.bool b)) vo :=
  h.set 104 _ _ (fun k hk => if_neg (by omega)) h.len rfl rfl rfl rfl rfl ⟨by omega, rfl⟩ ⟨by omega, rfl⟩ rfl
theorem MachIs.setStop (h : MachIs w bm s cs vo) (n : Int) : MachIs (w.setCell ⟨bm, 107, none⟩ (.int .i64 n)) bm { s with stop := n } (cs.setIfInBounds 107 (.int .i64 n)) vo :=
  h.set 107 _ _ (fun k hk => if_neg (by omega)) h.len rfl rfl rfl rfl rfl ⟨by omega, rfl⟩ ⟨by omega, rfl⟩ rfl
theorem MachIs.setWord (h : MachIs w bm s cs vo) {i : Nat} (hi : i < 100) (n : Int) : MachIs (w.setCell ⟨bm, i, none⟩ (.int .i64 n)) bm { s with words := s.words.set i n } (cs.setIfInBounds i (.int .i64 n)) vo := by
  have hl := h.len
  refine h.set i _ _ (fun k hk => ?_) (by simpa using hl) (if_neg (by omega)) (if_neg (by omega)) (if_neg (by omega)) (if_neg (by omega)) (if_neg (by omega)) ⟨by omega, rfl⟩ ⟨by omega, rfl⟩ (if_neg (by omega))
  show _ = some (Value.int .i64 ((s.words.set i n)[k]?.getD 0))
  rw [List.getElem?_set]
  split
  · rw [if_pos (by omega)]; rfl
  · rfl
/-- The output's row has been replaced by another one, in its place or new. -/
structure RowTo (w w1 : World) (bm : Nat) (e : TypeId) (v v' : Value) (n : Nat) (xs : List Value) : Prop where
  own : w1.ownsRow bm e 1 v' n xs
  grown : w.grownBy w1 v.ownBlock
  at_ : v'.ownBlock = v.ownBlock ∨ ∃ g, v'.ownBlock = some g ∧ w.heap.size ≤ g
theorem RowTo.block {e : TypeId} {v v' : Value} {n : Nat} {xs : List Value} (h : RowTo w w1 bm e v v' n xs) {g : Nat} (hg : g < w.heap.size) (hne : v.ownBlock ≠ some g) : w1.heap[g]? = w.heap[g]? :=
  h.grown.block g hg (fun e => hne e.symm)
theorem RowTo.old {e : TypeId} {v v' : Value} {n : Nat} {xs : List Value} (h : RowTo w w1 bm e v v' n xs) {g : Nat} (hg : g < w.heap.size) (hv : v'.ownBlock = some g) : v.ownBlock = some g := by
  rcases h.at_ with h1 | ⟨g', h1, h2⟩
  · rw [← h1]; exact hv
  · rw [h1] at hv; cases hv; omega
theorem MachIs.newOut (h : MachIs w bm s cs vo) {vo' : Value} {r : List Int} (hr : RowTo w w1 bm 5 vo vo' r.length (r.map (Value.int .u8))) :
    MachIs (w1.setCell ⟨bm, 106, none⟩ vo') bm { s with output := r } (cs.setIfInBounds 106 vo') vo' := by
  have hsz := h.size
  have hblk1 : w1.heap[bm]? = some (.cells cs 75 (0, 0)) := by rw [hr.block h.lt (own_ne h.outputo h.blk (by decide))]; exact h.blk
  have hk : ∀ g, g ≠ bm → (w1.setCell ⟨bm, 106, none⟩ vo').heap[g]? = w1.heap[g]? := fun g hg => Below.heap_setCell w1 ⟨bm, 106, none⟩ vo' g hg
  have hkb : ∀ g, ¬ Bad bm vo g → g < w.heap.size → (w1.setCell ⟨bm, 106, none⟩ vo').heap[g]? = w.heap[g]? := fun g hg hlt => by
    rw [hk g (fun e => hg (.inl (Nat.le_of_eq e))), hr.block hlt (fun e => hg (.inr e))]
  have hbb : ∀ g, g < w.heap.size → Bad bm vo' g → Bad bm vo g := fun g hlt hb => by
    rcases hb with hb | hb
    · exact .inl hb
    · exact .inr (hr.old hlt hb)
  refine ⟨heap_set_self hblk1 106 vo', by simpa using hsz, ?_, ?_, ?_, ?_, ?_, ?_, ?_, ?_, ?_, ?_, h.len⟩
  · intro k hk'; rw [getD_set, if_neg (by omega)]; exact h.words k hk'
  · rw [getD_set, if_neg (by decide)]; exact h.at_
  · rw [getD_set, if_neg (by decide)]; exact h.a
  · rw [getD_set, if_neg (by decide)]; exact h.q
  · rw [getD_set, if_neg (by decide)]; exact h.x
  · rw [getD_set, if_neg (by decide)]; exact h.ov
  · rw [getD_set, if_neg (by decide)]; exact h.input.keep hkb hbb
  · rw [getD_set, if_pos rfl, if_pos (by omega)]
  · exact own_keep hr.own fun g hg => hk g (fun e => own_ne hr.own hblk1 (by decide) (by rw [hg, e]))
  · rw [getD_set, if_neg (by decide)]; exact h.stop
/-- The input has been read from its front. -/
theorem MachIs.newIn (h : MachIs w bm s cs vo) {v' : Value} {r : List Int} (hr : SlFAt w .u8 (some v') r (Bad bm vo)) :
    MachIs (w.setCell ⟨bm, 105, none⟩ v') bm { s with input := r } (cs.setIfInBounds 105 v') vo := by
  have hsz := h.size
  have hk : ∀ g, g ≠ bm → (w.setCell ⟨bm, 105, none⟩ v').heap[g]? = w.heap[g]? := fun g hg => Below.heap_setCell w ⟨bm, 105, none⟩ v' g hg
  have hkb : ∀ g, ¬ Bad bm vo g → g < w.heap.size → (w.setCell ⟨bm, 105, none⟩ v').heap[g]? = w.heap[g]? := fun g hg _ => hk g (fun e => hg (.inl (Nat.le_of_eq e)))
  refine ⟨heap_set_self h.blk 105 v', by simpa using hsz, ?_, ?_, ?_, ?_, ?_, ?_, ?_, ?_, ?_, ?_, h.len⟩
  · intro k hk'; rw [getD_set, if_neg (by omega)]; exact h.words k hk'
  · rw [getD_set, if_neg (by decide)]; exact h.at_
  · rw [getD_set, if_neg (by decide)]; exact h.a
  · rw [getD_set, if_neg (by decide)]; exact h.q
  · rw [getD_set, if_neg (by decide)]; exact h.x
  · rw [getD_set, if_neg (by decide)]; exact h.ov
  · rw [getD_set, if_pos rfl, if_pos (by omega)]; exact hr.keep hkb (fun _ _ x => x)
  · rw [getD_set, if_neg (by decide)]; exact h.output
  · exact own_keep h.outputo fun g hg => hk g (fun e => own_ne h.outputo h.blk (by decide) (by rw [hg, e]))
  · rw [getD_set, if_neg (by decide)]; exact h.stop
end
end Go.Proofs.YtbaahbpianingaaDoor
