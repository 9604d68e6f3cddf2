import Derived.Test.YtbaahbpianingaaDoorMg3
import Derived.Test.YtbaahbpianingaaDoorProg
namespace Go.Proofs.YtbaahbpianingaaDoor
open Go Go.RowKit
open Acc (Dk)
def I64 (n : Int) : Prop := -9223372036854775808 ≤ n ∧ n ≤ 9223372036854775807
theorem own_lt {w : World} {base : Nat} {e : TypeId} {size n : Nat} {v : Value} {xs : List Value} (h : w.ownsRow base e size v n xs) {g : Nat} (hg : v.ownBlock = some g) : base ≤ g ∧ g < w.heap.size := h.lt g hg
theorem own_keep {w w' : World} {base : Nat} {e : TypeId} {size n : Nat} {v : Value} {xs : List Value} (h : w.ownsRow base e size v n xs) (hk : ∀ g, v.ownBlock = some g → w'.heap[g]? = w.heap[g]?) : w'.ownsRow base e size v n xs := by
  refine ⟨h.1, ?_⟩
  rcases h.2 with hn | ⟨g, cap, cur, rfl, hb, hgg, rest⟩
  · exact .inl hn
  · exact .inr ⟨g, cap, cur, rfl, hb, by rw [hk g rfl]; exact hgg, rest⟩
theorem block_add (a : Addr) (n : Nat) : (a.add n).block = a.block := by unfold Addr.add; split <;> rfl
/-- A slice that reads as these cells, none of them in a bad block. -/
def SlF (w : World) (A : Option Addr) (xs : List Value) (bad : Nat → Prop) : Prop :=
  ∀ i u, xs[i]? = some u → ∃ a, A = some a ∧ w.cell? (a.add i) = some u ∧ ¬ bad a.block
theorem SlF.sl {w : World} {A : Option Addr} {xs : List Value} {bad : Nat → Prop} (h : SlF w A xs bad) : SlC w A xs := by
  intro i u hu
  obtain ⟨a, h1, h2, _⟩ := h i u hu
  exact ⟨a, h1, h2⟩
theorem SlF.keep {w w' : World} {A : Option Addr} {xs : List Value} {bad bad' : Nat → Prop} (h : SlF w A xs bad)
    (hk : ∀ g, ¬ bad g → g < w.heap.size → w'.heap[g]? = w.heap[g]?) (hb : ∀ g, g < w.heap.size → bad' g → bad g) : SlF w' A xs bad' := by
  intro i u hu
  obtain ⟨a, h1, h2, h3⟩ := h i u hu
  have hlt := World.block_lt_of_cell? w _ h2
  rw [block_add] at hlt
  refine ⟨a, h1, ?_, fun hb' => h3 (hb _ hlt hb')⟩
  rw [World.cell?_of_block (w := w) (by rw [block_add]; exact hk _ h3 hlt)]
  exact h2
/-- A cell that holds a slice of integers. -/
def SlAt (w : World) (k : IntKind) (o : Option Value) (l : List Int) : Prop :=
  ∃ A c, o = some (.slice A l.length c) ∧ l.length ≤ c ∧ c ≤ maxLen ∧ (A = none → c = 0) ∧ Sl w k A l
theorem SlAt.ext {w w' : World} {k : IntKind} {o : Option Value} {l : List Int} (h : SlAt w k o l) (e : Ext w w') : SlAt w' k o l := by
  obtain ⟨A, c, h1, h2, h3, h4, h5⟩ := h
  exact ⟨A, c, h1, h2, h3, h4, h5.ext e⟩
/-- A field that holds a slice of integers, away from the machine's own rows. -/
def SlFAt (w : World) (k : IntKind) (o : Option Value) (l : List Int) (bad : Nat → Prop) : Prop :=
  ∃ A c, o = some (.slice A l.length c) ∧ l.length ≤ c ∧ c ≤ maxLen ∧ (A = none → c = 0) ∧ SlF w A (l.map (Value.int k)) bad
theorem SlFAt.keep {w w' : World} {k : IntKind} {o : Option Value} {l : List Int} {bad bad' : Nat → Prop} (h : SlFAt w k o l bad)
    (hk : ∀ g, ¬ bad g → g < w.heap.size → w'.heap[g]? = w.heap[g]?) (hb : ∀ g, g < w.heap.size → bad' g → bad g) : SlFAt w' k o l bad' := by
  obtain ⟨A, c, h1, h2, h3, h4, h5⟩ := h
  exact ⟨A, c, h1, h2, h3, h4, h5.keep hk hb⟩
/-- The plain data of a state that a program may hold. -/
structure DkWf (s : Dk) : Prop where
  len : s.words.length = 100
  words : ∀ n ∈ s.words, I64 n
  at_ : I64 s.at_
  a : I64 s.a
  q : I64 s.q
  x : I64 s.x
  input : Byt s.input
  output : Byt s.output
  stop : I64 s.stop
/-- The cells of a state. -/
structure DkIs (w : World) (cs : Array Value) (s : Dk) : Prop where
  size : cs.size = 108
  words : ∀ i, i < 100 → cs[i]? = some (.int .i64 (s.words[i]?.getD 0))
  at_ : cs[100]? = some (.int .i64 s.at_)
  a : cs[101]? = some (.int .i64 s.a)
  q : cs[102]? = some (.int .i64 s.q)
  x : cs[103]? = some (.int .i64 s.x)
  ov : cs[104]? = some (.bool s.ov)
  input : SlAt w .u8 cs[105]? s.input
  output : SlAt w .u8 cs[106]? s.output
  stop : cs[107]? = some (.int .i64 s.stop)
  wf : DkWf s
theorem DkIs.ext {w w' : World} {cs : Array Value} {s : Dk} (h : DkIs w cs s) (e : Ext w w') : DkIs w' cs s :=
  ⟨h.size, h.words, h.at_, h.a, h.q, h.x, h.ov, h.input.ext e, h.output.ext e, h.stop, h.wf⟩
def Bad (bm : Nat) (vo : Value) (g : Nat) : Prop := g ≤ bm ∨ vo.ownBlock = some g
/-- The machine's block: what its fields hold. -/
structure MachIs (w : World) (bm : Nat) (s : Dk) (cs : Array Value) (vo : Value) : Prop where
  blk : w.heap[bm]? = some (.cells cs 75 (0, 0))
  size : cs.size = 108
  words : ∀ i, i < 100 → cs[i]? = some (.int .i64 (s.words[i]?.getD 0))
  at_ : cs[100]? = some (.int .i64 s.at_)
  a : cs[101]? = some (.int .i64 s.a)
  q : cs[102]? = some (.int .i64 s.q)
  x : cs[103]? = some (.int .i64 s.x)
  ov : cs[104]? = some (.bool s.ov)
  input : SlFAt w .u8 cs[105]? s.input (Bad bm vo)
  output : cs[106]? = some vo
  outputo : w.ownsRow bm 5 1 vo s.output.length (s.output.map (Value.int .u8))
  stop : cs[107]? = some (.int .i64 s.stop)
  len : s.words.length = 100
section
variable {w w' w1 : World} {bm : Nat} {s : Dk} {cs : Array Value} {vo : Value}
theorem own_ne {base g : Nat} {e t : TypeId} {size n : Nat} {v : Value} {xs : List Value} {cs : Array Value} {fr : Nat × Nat} (h : w.ownsRow base e size v n xs) (hg : w.heap[g]? = some (.cells cs t fr)) (hne : e ≠ t) : v.ownBlock ≠ some g := by
  rcases h.2 with ⟨rfl, _⟩ | ⟨g', cap, cur, rfl, _, hh, _⟩
  · simp [Value.ownBlock]
  · intro he
    have : g' = g := by simpa [Value.ownBlock] using he
    subst this
    rw [hh] at hg
    injection hg with hg
    injection hg with _ ht
    exact hne ht
theorem MachIs.lt (h : MachIs w bm s cs vo) : bm < w.heap.size := (Array.getElem?_eq_some_iff.1 h.blk).1
/-- All that the machine owns lies as it lay. -/
theorem MachIs.keep (h : MachIs w bm s cs vo) (hk : ∀ g, g < w.heap.size → w'.heap[g]? = w.heap[g]?) : MachIs w' bm s cs vo :=
  ⟨by rw [hk _ h.lt]; exact h.blk, h.size, h.words, h.at_, h.a, h.q, h.x, h.ov, h.input.keep (fun g _ hg => hk g hg) (fun _ _ x => x), h.output, own_keep h.outputo (fun g hg => hk g (own_lt h.outputo hg).2), h.stop, h.len⟩
theorem MachIs.ext (h : MachIs w bm s cs vo) (e : Ext w w') : MachIs w' bm s cs vo := h.keep fun g hg => e.block g hg
theorem MachIs.alloc (h : MachIs w bm s cs vo) (o : Obj) : MachIs (w.alloc o) bm s cs vo := h.ext ((Ext.refl w).alloc o)
theorem MachIs.drewN (h : MachIs w bm s cs vo) (n : Nat) : MachIs (w.drewN n) bm s cs vo := h.ext ((Ext.refl w).drewN n)
theorem MachIs.cell (h : MachIs w bm s cs vo) (i : Nat) : w.cell? ⟨bm, i, none⟩ = cs[i]? := cell_of_row w bm i cs 75 (0, 0) h.blk
theorem MachIs.frozen (h : MachIs w bm s cs vo) (i : Nat) : w.frozen? ⟨bm, i, none⟩ = false := by simp [World.frozen?, h.blk]
theorem heap_set_self {t : TypeId} (h : w.heap[bm]? = some (.cells cs t (0, 0))) (i : Nat) (u : Value) : (w.setCell ⟨bm, i, none⟩ u).heap[bm]? = some (.cells (cs.setIfInBounds i u) t (0, 0)) := by
  simp [World.setCell, Array.getElem?_modify, h]
theorem getD_set {i j : Nat} {u : Value} : (cs.setIfInBounds i u)[j]? = if i = j then (if i < cs.size then some u else none) else cs[j]? := by
  rw [Array.getElem?_setIfInBounds]
/-- A number, a truth or a word of the machine is set. -/
theorem MachIs.set (h : MachIs w bm s cs vo) (i : Nat) (u : Value) (s' : Dk)
    (ew : ∀ k, k < 100 → (if i = k then some u else some (.int .i64 (s.words[k]?.getD 0))) = some (.int .i64 (s'.words[k]?.getD 0))) (el : s'.words.length = 100)
    (e0 : (if i = 100 then some u else some (.int .i64 s.at_)) = some (.int .i64 s'.at_)) (e1 : (if i = 101 then some u else some (.int .i64 s.a)) = some (.int .i64 s'.a))
    (e2 : (if i = 102 then some u else some (.int .i64 s.q)) = some (.int .i64 s'.q)) (e3 : (if i = 103 then some u else some (.int .i64 s.x)) = some (.int .i64 s'.x))
    (e4 : (if i = 104 then some u else some (.bool s.ov)) = some (.bool s'.ov)) (e5 : i ≠ 105 ∧ s'.input = s.input) (e6 : i ≠ 106 ∧ s'.output = s.output)
    (e7 : (if i = 107 then some u else some (.int .i64 s.stop)) = some (.int .i64 s'.stop)) :
    MachIs (w.setCell ⟨bm, i, none⟩ u) bm s' (cs.setIfInBounds i u) vo := by
  have hsz := h.size
  have hk : ∀ g, g ≠ bm → (w.setCell ⟨bm, i, none⟩ u).heap[g]? = w.heap[g]? := fun g hg => Below.heap_setCell w ⟨bm, i, none⟩ u g hg
  have hkb : ∀ g, ¬ Bad bm vo g → g < w.heap.size → (w.setCell ⟨bm, i, none⟩ u).heap[g]? = w.heap[g]? := fun g hg _ => hk g (fun e => hg (.inl (Nat.le_of_eq e)))
  refine ⟨heap_set_self h.blk i u, by simpa using hsz, ?_, ?_, ?_, ?_, ?_, ?_, ?_, ?_, ?_, ?_, el⟩
  · intro k hk'; rw [getD_set, ← ew k hk', h.words k hk']; split
    · rw [if_pos (by omega)]
    · rfl
  · rw [getD_set, ← e0, h.at_]; split
    · rw [if_pos (by omega)]
    · rfl
  · rw [getD_set, ← e1, h.a]; split
    · rw [if_pos (by omega)]
    · rfl
  · rw [getD_set, ← e2, h.q]; split
    · rw [if_pos (by omega)]
    · rfl
  · rw [getD_set, ← e3, h.x]; split
    · rw [if_pos (by omega)]
    · rfl
  · rw [getD_set, ← e4, h.ov]; split
    · rw [if_pos (by omega)]
    · rfl
  · rw [e5.2, getD_set, if_neg e5.1]; exact h.input.keep hkb (fun _ _ x => x)
  · rw [getD_set, if_neg e6.1]; exact h.output
  · rw [e6.2]; exact own_keep h.outputo fun g hg => hk g (fun e => own_ne h.outputo h.blk (by decide) (by rw [hg, e]))
  · rw [getD_set, ← e7, h.stop]; split
    · rw [if_pos (by omega)]
    · rfl
theorem MachIs.setAt (h : MachIs w bm s cs vo) (n : Int) : MachIs (w.setCell ⟨bm, 100, none⟩ (.int .i64 n)) bm { s with at_ := n } (cs.setIfInBounds 100 (.int .i64 n)) vo :=
  h.set 100 _ _ (fun k hk => if_neg (by omega)) h.len rfl rfl rfl rfl rfl ⟨by omega, rfl⟩ ⟨by omega, rfl⟩ rfl
theorem MachIs.setA (h : MachIs w bm s cs vo) (n : Int) : MachIs (w.setCell ⟨bm, 101, none⟩ (.int .i64 n)) bm { s with a := n } (cs.setIfInBounds 101 (.int .i64 n)) vo :=
  h.set 101 _ _ (fun k hk => if_neg (by omega)) h.len rfl rfl rfl rfl rfl ⟨by omega, rfl⟩ ⟨by omega, rfl⟩ rfl
theorem MachIs.setQ (h : MachIs w bm s cs vo) (n : Int) : MachIs (w.setCell ⟨bm, 102, none⟩ (.int .i64 n)) bm { s with q := n } (cs.setIfInBounds 102 (.int .i64 n)) vo :=
  h.set 102 _ _ (fun k hk => if_neg (by omega)) h.len rfl rfl rfl rfl rfl ⟨by omega, rfl⟩ ⟨by omega, rfl⟩ rfl
theorem MachIs.setX (h : MachIs w bm s cs vo) (n : Int) : MachIs (w.setCell ⟨bm, 103, none⟩ (.int .i64 n)) bm { s with x := n } (cs.setIfInBounds 103 (.int .i64 n)) vo :=
  h.set 103 _ _ (fun k hk => if_neg (by omega)) h.len rfl rfl rfl rfl rfl ⟨by omega, rfl⟩ ⟨by omega, rfl⟩ rfl
theorem MachIs.setOv (h : MachIs w bm s cs vo) (b : Bool) : MachIs (w.setCell ⟨bm, 104, none⟩ (.bool b)) bm { s with ov := b } (cs.setIfInBounds 104 (.bool b)) vo :=
  h.set 104 _ _ (fun k hk => if_neg (by omega)) h.len rfl rfl rfl rfl rfl ⟨by omega, rfl⟩ ⟨by omega, rfl⟩ rfl
theorem MachIs.setStop (h : MachIs w bm s cs vo) (n : Int) : MachIs (w.setCell ⟨bm, 107, none⟩ (.int .i64 n)) bm { s with stop := n } (cs.setIfInBounds 107 (.int .i64 n)) vo :=
  h.set 107 _ _ (fun k hk => if_neg (by omega)) h.len rfl rfl rfl rfl rfl ⟨by omega, rfl⟩ ⟨by omega, rfl⟩ rfl
theorem MachIs.setWord (h : MachIs w bm s cs vo) {i : Nat} (hi : i < 100) (n : Int) : MachIs (w.setCell ⟨bm, i, none⟩ (.int .i64 n)) bm { s with words := s.words.set i n } (cs.setIfInBounds i (.int .i64 n)) vo := by
  have hl := h.len
  refine h.set i _ _ (fun k hk => ?_) (by simpa using hl) (if_neg (by omega)) (if_neg (by omega)) (if_neg (by omega)) (if_neg (by omega)) (if_neg (by omega)) ⟨by omega, rfl⟩ ⟨by omega, rfl⟩ (if_neg (by omega))
  show _ = some (Value.int .i64 ((s.words.set i n)[k]?.getD 0))
  rw [List.getElem?_set]
  split
  · rw [if_pos (by omega)]; rfl
  · rfl
/-- The output's row has been replaced by another one, in its place or new. -/
structure RowTo (w w1 : World) (bm : Nat) (e : TypeId) (v v' : Value) (n : Nat) (xs : List Value) : Prop where
  own : w1.ownsRow bm e 1 v' n xs
  grown : w.grownBy w1 v.ownBlock
  at_ : v'.ownBlock = v.ownBlock ∨ ∃ g, v'.ownBlock = some g ∧ w.heap.size ≤ g
theorem RowTo.block {e : TypeId} {v v' : Value} {n : Nat} {xs : List Value} (h : RowTo w w1 bm e v v' n xs) {g : Nat} (hg : g < w.heap.size) (hne : v.ownBlock ≠ some g) : w1.heap[g]? = w.heap[g]? :=
  h.grown.block g hg (fun e => hne e.symm)
theorem RowTo.old {e : TypeId} {v v' : Value} {n : Nat} {xs : List Value} (h : RowTo w w1 bm e v v' n xs) {g : Nat} (hg : g < w.heap.size) (hv : v'.ownBlock = some g) : v.ownBlock = some g := by
  rcases h.at_ with h1 | ⟨g', h1, h2⟩
  · rw [← h1]; exact hv
  · rw [h1] at hv; cases hv; omega
theorem MachIs.newOut (h : MachIs w bm s cs vo) {vo' : Value} {r : List Int} (hr : RowTo w w1 bm 5 vo vo' r.length (r.map (Value.int .u8))) :
    MachIs (w1.setCell ⟨bm, 106, none⟩ vo') bm { s with output := r } (cs.setIfInBounds 106 vo') vo' := by
  have hsz := h.size
  have hblk1 : w1.heap[bm]? = some (.cells cs 75 (0, 0)) := by rw [hr.block h.lt (own_ne h.outputo h.blk (by decide))]; exact h.blk
  have hk : ∀ g, g ≠ bm → (w1.setCell ⟨bm, 106, none⟩ vo').heap[g]? = w1.heap[g]? := fun g hg => Below.heap_setCell w1 ⟨bm, 106, none⟩ vo' g hg
  have hkb : ∀ g, ¬ Bad bm vo g → g < w.heap.size → (w1.setCell ⟨bm, 106, none⟩ vo').heap[g]? = w.heap[g]? := fun g hg hlt => by
    rw [hk g (fun e => hg (.inl (Nat.le_of_eq e))), hr.block hlt (fun e => hg (.inr e))]
  have hbb : ∀ g, g < w.heap.size → Bad bm vo' g → Bad bm vo g := fun g hlt hb => by
    rcases hb with hb | hb
    · exact .inl hb
    · exact .inr (hr.old hlt hb)
  refine ⟨heap_set_self hblk1 106 vo', by simpa using hsz, ?_, ?_, ?_, ?_, ?_, ?_, ?_, ?_, ?_, ?_, h.len⟩
  · intro k hk'; rw [getD_set, if_neg (by omega)]; exact h.words k hk'
  · rw [getD_set, if_neg (by decide)]; exact h.at_
  · rw [getD_set, if_neg (by decide)]; exact h.a
  · rw [getD_set, if_neg (by decide)]; exact h.q
  · rw [getD_set, if_neg (by decide)]; exact h.x
  · rw [getD_set, if_neg (by decide)]; exact h.ov
  · rw [getD_set, if_neg (by decide)]; exact h.input.keep hkb hbb
  · rw [getD_set, if_pos rfl, if_pos (by omega)]
  · exact own_keep hr.own fun g hg => hk g (fun e => own_ne hr.own hblk1 (by decide) (by rw [hg, e]))
  · rw [getD_set, if_neg (by decide)]; exact h.stop
/-- The input has been read from its front. -/
theorem MachIs.newIn (h : MachIs w bm s cs vo) {v' : Value} {r : List Int} (hr : SlFAt w .u8 (some v') r (Bad bm vo)) :
    MachIs (w.setCell ⟨bm, 105, none⟩ v') bm { s with input := r } (cs.setIfInBounds 105 v') vo := by
  have hsz := h.size
  have hk : ∀ g, g ≠ bm → (w.setCell ⟨bm, 105, none⟩ v').heap[g]? = w.heap[g]? := fun g hg => Below.heap_setCell w ⟨bm, 105, none⟩ v' g hg
  have hkb : ∀ g, ¬ Bad bm vo g → g < w.heap.size → (w.setCell ⟨bm, 105, none⟩ v').heap[g]? = w.heap[g]? := fun g hg _ => hk g (fun e => hg (.inl (Nat.le_of_eq e)))
  refine ⟨heap_set_self h.blk 105 v', by simpa using hsz, ?_, ?_, ?_, ?_, ?_, ?_, ?_, ?_, ?_, ?_, h.len⟩
  · intro k hk'; rw [getD_set, if_neg (by omega)]; exact h.words k hk'
  · rw [getD_set, if_neg (by decide)]; exact h.at_
  · rw [getD_set, if_neg (by decide)]; exact h.a
  · rw [getD_set, if_neg (by decide)]; exact h.q
  · rw [getD_set, if_neg (by decide)]; exact h.x
  · rw [getD_set, if_neg (by decide)]; exact h.ov
  · rw [getD_set, if_pos rfl, if_pos (by omega)]; exact hr.keep hkb (fun _ _ x => x)
  · rw [getD_set, if_neg (by decide)]; exact h.output
  · exact own_keep h.outputo fun g hg => hk g (fun e => own_ne h.outputo h.blk (by decide) (by rw [hg, e]))
  · rw [getD_set, if_neg (by decide)]; exact h.stop
end
end Go.Proofs.YtbaahbpianingaaDoor
namespace Go.Proofs.YtbaahbpianingaaDoor
open Go Go.Proofs Go.RowKit
open Acc (Dk red five)
set_option maxHeartbeats 1000000
set_option maxRecDepth 100000
theorem ret_bool {a b : Bool} (h : a = b) : Ending.returned (.bool a) = .returned (.bool b) := by rw [h]
theorem ret_int {k : IntKind} {a b : Int} (h : a = b) : Ending.returned (.int k a) = .returned (.int k b) := by rw [h]
def BRet (w : World) (b : Bool) (e : Ending) (w' : World) : Prop := e = .returned (.bool b) ∧ Ext w w'
theorem fault_c (c i : Int) (w : World) :
    Calls Tryd.prog 40 #[.int .i64 c, .int .i64 i] w fun e w' => e = .returned (.agg #[.int .i64 c, .int .i64 i]) ∧ w.alloc (.cells #[.int .i64 c, .int .i64 i] 28) = w' := by
  go_enter Tryd.func40, Tryd.ntmps40
  go_wp2
  exact bodyPost_ret (v := .agg #[.int .i64 c, .int .i64 i]) (by simp [results, Tryd.results40, go_sem]) rfl ⟨rfl, rfl⟩
theorem At_c (c i : Int) (w : World) :
    Calls Tryd.prog 14 #[.int .i64 c, .int .i64 i] w fun e w' => e = .returned (.agg #[.int .i64 c, .int .i64 i]) ∧ w.alloc (.cells #[.int .i64 c, .int .i64 i] 28) = w' := by
  go_enter Tryd.func14, Tryd.ntmps14
  go_wp2
  exact bodyPost_ret (v := .agg #[.int .i64 c, .int .i64 i]) (by simp [results, Tryd.results14, go_sem]) rfl ⟨rfl, rfl⟩
def inB (n lo hi : Int) : Bool := decide (lo ≤ n ∧ n ≤ hi)
theorem In_c (n lo hi : Int) (w : World) :
    Calls Tryd.prog 22 #[.int .i64 n, .int .i64 lo, .int .i64 hi] w fun e w' => e = .returned (.bool (inB n lo hi)) ∧ w = w' := by
  by_cases h2 : lo ≤ n
  all_goals go_enter Tryd.func22, Tryd.ntmps22
  all_goals go_wp2
  all_goals go_ret
  all_goals refine ⟨ret_bool ?_, rfl⟩
  all_goals simp [inB]
  all_goals omega
theorem five_inB (n : Int) : five n = inB n (-99999) 99999 := rfl
theorem five_c (n : Int) (w : World) : Calls Tryd.prog 42 #[.int .i64 n] w fun e w' => e = .returned (.bool (five n)) ∧ w = w' := by
  go_enter Tryd.func42, Tryd.ntmps42
  go_wp2_with (go_at_call 22; refine (In_c _ _ _ _).mono ?_; rintro e w' ⟨rfl, rfl⟩)
  go_ret
  exact ⟨rfl, rfl⟩
theorem validWord_c (n : Int) (w : World) : Calls Tryd.prog 71 #[.int .i64 n] w fun e w' => e = .returned (.bool (five n)) ∧ w = w' := by
  by_cases h2 : -99999 ≤ n
  all_goals go_enter Tryd.func71, Tryd.ntmps71
  all_goals go_wp2
  all_goals go_ret
  all_goals refine ⟨ret_bool ?_, rfl⟩
  all_goals simp [five]
  all_goals omega
theorem badWord1_c (n : Int) (w : World) : Calls Tryd.prog 70 #[.int .i64 n] w fun e w' => e = .returned (.bool (!five n)) ∧ w = w' := by
  go_enter Tryd.func70, Tryd.ntmps70
  go_wp2_with (go_at_call 71; refine (validWord_c _ _).mono ?_; rintro e w' ⟨rfl, rfl⟩)
  go_ret
  exact ⟨rfl, rfl⟩
/-- The place of the first number that is no word, or -1. -/
def badI (l : List Int) : Int := match l.findIdx? (fun n => !five n) with | some i => (i : Int) | none => -1
def fineTo (l : List Int) (k : Nat) : Prop := ∀ i x, i < k → l[i]? = some x → five x = true
theorem fineTo_succ {l : List Int} {k : Nat} (h : fineTo l k) {y : Int} (hy : l[k]? = some y) (h2 : five y = true) : fineTo l (k + 1) := by
  intro i x hi hx
  by_cases e : i = k
  · subst e; rw [hx] at hy; cases hy; exact h2
  · exact h i x (by omega) hx
theorem badI_some {l : List Int} {k : Nat} (h : fineTo l k) {y : Int} (hy : l[k]? = some y) (h2 : five y = false) : badI l = k := by
  obtain ⟨h1, rfl⟩ := List.getElem?_eq_some_iff.1 hy
  unfold badI
  have : l.findIdx? (fun n => !five n) = some k := by
    rw [List.findIdx?_eq_some_iff_getElem]
    refine ⟨h1, by simpa using h2, fun j hj => ?_⟩
    have := h j _ hj (List.getElem?_eq_getElem (by omega))
    simpa using this
  rw [this]
theorem badI_none {l : List Int} {k : Nat} (h : fineTo l k) (h1 : l.length ≤ k) : badI l = -1 := by
  unfold badI
  have : l.findIdx? (fun n => !five n) = none := by
    rw [List.findIdx?_eq_none_iff]
    intro x hx
    obtain ⟨i, hi, rfl⟩ := List.getElem_of_mem hx
    have := h i _ (by omega) (List.getElem?_eq_getElem hi)
    simpa using this
  rw [this]
theorem badI_fine {l : List Int} (h : badI l < 0) : ∀ x ∈ l, five x = true := by
  unfold badI at h
  cases hf : l.findIdx? (fun n => !five n) with
  | some i => rw [hf] at h; simp at h; omega
  | none =>
    intro x hx
    have := List.findIdx?_eq_none_iff.1 hf x hx
    simpa using this
theorem badI_all {l : List Int} (h : ∀ x ∈ l, five x = true) : badI l = -1 := badI_none (k := l.length) (fun _ x _ hx => h x (List.mem_of_getElem? hx)) (Nat.le_refl _)
theorem badI_lt (l : List Int) : -1 ≤ badI l ∧ badI l < (l.length : Int) ∨ badI l = -1 := by
  unfold badI
  cases hf : l.findIdx? (fun n => !five n) with
  | some i =>
    have := (List.findIdx?_eq_some_iff_getElem.1 hf).1
    left; simp only; omega
  | none => right; rfl
theorem IndexFunc_c (A : Option Addr) (l : List Int) (c : Nat) (w : World) (hl : l.length ≤ maxLen) (h1 : Sl w .i64 A l) :
    Calls Tryd.prog 66 #[.slice A l.length c, .func (.func 70) #[] #[]] w fun e w' => e = .returned (.int .i64 (badI l)) ∧ w = w' := by
  unfold maxLen at hl
  obtain ⟨q, hq⟩ : ∃ q, q = l.length := ⟨_, rfl⟩
  rw [← hq] at hl ⊢
  have HQ := Lib.hid hq
  clear hq
  go_enter Tryd.func66, Tryd.ntmps66
  go_wp2
  go_loop [8] (fun i => ∃ k : Nat, k ≤ q ∧ i = .int .i64 k ∧ fineTo l k) (fun i => q - (intOf i).toNat)
  case atStart => exact ⟨0, Nat.zero_le _, rfl, fun i x hi => by omega⟩
  case round =>
    obtain ⟨k, hk, rfl, hr⟩ := hrel
    have HR := Lib.hid hr
    clear hr
    by_cases hlt : k < q
    · have hkl : k < l.length := by rw [← HQ.out]; exact hlt
      obtain ⟨b, o, x, rfl, hx, ha⟩ := h1.at2 hkl
      clear hkl
      cases hb : five x with
      | false =>
        have HF := Lib.hid (badI_some HR.out hx.out hb)
        go_wp2_with (go_at_call 70; refine (badWord1_c _ _).mono ?_; rintro e w' ⟨rfl, rfl⟩; rw [hb])
        go_ret
        exact ⟨ret_int HF.out.symm, rfl⟩
      | true =>
        go_wp2_with (go_at_call 70; refine (badWord1_c _ _).mono ?_; rintro e w' ⟨rfl, rfl⟩; rw [hb])
        go_round
        case rel => exact ⟨k + 1, by omega, by go_num, fineTo_succ HR.out hx.out hb⟩
        case measure => simp [intOf]; omega
    · have HF := Lib.hid (badI_none HR.out (by rw [← HQ.out]; omega))
      go_wp2
      go_ret
      exact ⟨ret_int HF.out.symm, rfl⟩
theorem badWord_c (A : Option Addr) (l : List Int) (c : Nat) (w : World) (hl : l.length ≤ maxLen) (h1 : Sl w .i64 A l) :
    Calls Tryd.prog 45 #[.slice A l.length c] w fun e w' => e = .returned (.int .i64 (badI l)) ∧ w = w' := by
  have HI := Lib.hid (IndexFunc_c A l c w hl h1)
  clear h1
  go_enter Tryd.func45, Tryd.ntmps45
  go_wp2_with (go_at_call 66; refine HI.out.mono ?_; rintro e w' ⟨rfl, rfl⟩)
  go_ret
  exact ⟨rfl, rfl⟩
theorem red_wrap (n : Int) : IntKind.i64.wrap (n.tmod 100000) = red n := by
  have := Acc.five_iff.1 (Acc.red_five n)
  unfold red at *
  exact IntWalk.i64_in _ (by omega)
theorem reduce_c (n : Int) (w : World) : Calls Tryd.prog 100 #[.int .i64 n] w fun e w' => e = .returned (.int .i64 (red n)) ∧ w = w' := by
  have hw := red_wrap n
  go_enter Tryd.func100, Tryd.ntmps100
  go_wp2
  go_ret
  exact ⟨by rfl, rfl⟩
end Go.Proofs.YtbaahbpianingaaDoor
namespace Go.Proofs.YtbaahbpianingaaDoor
open Go Go.Proofs Go.RowKit
open Acc (Dk red five)
set_option maxHeartbeats 1000000
set_option maxRecDepth 100000
theorem info_parts {P : Program} {t : TypeId} {z : Value} {a b : Nat} (h : (P.info? t).map (fun i => (i.zero, i.size, i.bytes)) = some (some z, a, b)) : ∃ i, P.info? t = some i ∧ i.zero = some z ∧ i.size = a ∧ i.bytes = b := by
  cases hq : P.info? t with
  | none => rw [hq] at h; cases h
  | some i =>
    rw [hq] at h
    simp only [Option.map_some, Option.some.injEq, Prod.mk.injEq] at h
    exact ⟨i, rfl, h.1, h.2.1, h.2.2⟩
theorem infoB : (Tryd.prog.info? 5).map (fun i => (i.zero, i.size, i.bytes)) = some (some (.int .u8 0), 1, 1) := by kernel_rfl
theorem infoI : (Tryd.prog.info? 3).map (fun i => (i.zero, i.size, i.bytes)) = some (some (.int .i64 0), 1, 8) := by kernel_rfl
theorem add_add (a : Addr) (i j : Nat) : (a.add i).add j = a.add (i + j) := by
  unfold Addr.add
  by_cases hi : i = 0 <;> by_cases hj : j = 0 <;> simp [hi, hj, Nat.add_assoc]
section
variable {w : World} {bm : Nat} {s : Dk} {cs : Array Value} {vo : Value}
theorem MachIs.cAt (h : MachIs w bm s cs vo) : w.cell? ⟨bm, 100, none⟩ = some (.int .i64 s.at_) := by rw [h.cell, h.at_]
theorem MachIs.cA (h : MachIs w bm s cs vo) : w.cell? ⟨bm, 101, none⟩ = some (.int .i64 s.a) := by rw [h.cell, h.a]
theorem MachIs.cQ (h : MachIs w bm s cs vo) : w.cell? ⟨bm, 102, none⟩ = some (.int .i64 s.q) := by rw [h.cell, h.q]
theorem MachIs.cX (h : MachIs w bm s cs vo) : w.cell? ⟨bm, 103, none⟩ = some (.int .i64 s.x) := by rw [h.cell, h.x]
theorem MachIs.cOv (h : MachIs w bm s cs vo) : w.cell? ⟨bm, 104, none⟩ = some (.bool s.ov) := by rw [h.cell, h.ov]
theorem MachIs.cStop (h : MachIs w bm s cs vo) : w.cell? ⟨bm, 107, none⟩ = some (.int .i64 s.stop) := by rw [h.cell, h.stop]
theorem MachIs.cWord (h : MachIs w bm s cs vo) {i : Nat} (hi : i < 100) : w.cell? ⟨bm, i, none⟩ = some (.int .i64 (s.words[i]?.getD 0)) := by rw [h.cell, h.words i hi]
theorem sum_c (h : MachIs w bm s cs vo) (a b : Int) (ha : five a = true) (hb : five b = true) :
    Calls Tryd.prog 97 #[.pointer (some ⟨bm, 0, none⟩), .int .i64 a, .int .i64 b] w fun e w' => e = .returned (.int .i64 (Acc.sumF s a b).1) ∧ w' = w.setCell ⟨bm, 104, none⟩ (.bool (Acc.sumF s a b).2) := by
  have a1 := Acc.five_iff.1 ha
  have b1 := Acc.five_iff.1 hb
  have hw : IntKind.i64.wrap (a + b) = a + b := IntWalk.i64_in _ (by omega)
  have k1 := h.cOv
  have k2 := h.frozen 104
  have hlt := h.lt
  have HC := Lib.hid (reduce_c (a + b))
  unfold Acc.sumF
  generalize s.ov = ov at *
  clear h ha hb
  cases ov with
  | true =>
    go_enter Tryd.func97, Tryd.ntmps97
    go_wp2_with (go_at_call 100; refine (HC.out _).mono ?_; rintro e w' ⟨rfl, rfl⟩)
    go_ret
    exact ⟨rfl, rfl⟩
  | false =>
    cases hd : decide (red (a + b) ≠ a + b) with
    | true =>
      have hd' : (red (a + b) != a + b) = true := by simpa using hd
      go_enter Tryd.func97, Tryd.ntmps97
      go_wp2_with (go_at_call 100; refine (HC.out _).mono ?_; rintro e w' ⟨rfl, rfl⟩)
      go_ret
      exact ⟨rfl, rfl⟩
    | false =>
      have hd' : (red (a + b) != a + b) = false := by simpa using hd
      go_enter Tryd.func97, Tryd.ntmps97
      go_wp2_with (go_at_call 100; refine (HC.out _).mono ?_; rintro e w' ⟨rfl, rfl⟩)
      go_ret
      exact ⟨rfl, rfl⟩
theorem jump_c (h : MachIs w bm s cs vo) (a : Int) (b : Bool) :
    Calls Tryd.prog 103 #[.pointer (some ⟨bm, 0, none⟩), .int .i64 a, .bool b] w fun e w' => e = .returned (.tuple #[]) ∧ w' = if b then w.setCell ⟨bm, 100, none⟩ (.int .i64 a) else w := by
  have k1 := h.cAt
  have k2 := h.frozen 100
  have hlt := h.lt
  clear h
  cases b with
  | true =>
    go_enter Tryd.func103, Tryd.ntmps103
    go_wp2
    refine bodyPost_end (results_none Tryd.results103 _ _ _) rfl ?_
    exact ⟨rfl, rfl⟩
  | false =>
    go_enter Tryd.func103, Tryd.ntmps103
    go_wp2
    refine bodyPost_end (results_none Tryd.results103 _ _ _) rfl ?_
    exact ⟨rfl, rfl⟩
/-- What read gives and leaves. -/
def ReadPost (w : World) (bm : Nat) (s : Dk) (vo : Value) (e : Ending) (w' : World) : Prop :=
  (s.input = [] ∧ e = .returned (.int .i64 (-1)) ∧ w' = w) ∨ ∃ x r v', s.input = x :: r ∧ e = .returned (.int .i64 x) ∧ w' = w.setCell ⟨bm, 105, none⟩ v' ∧ SlFAt w .u8 (some v') r (Bad bm vo)
theorem read_c (h : MachIs w bm s cs vo) (hb8 : Byt s.input) : Calls Tryd.prog 110 #[.pointer (some ⟨bm, 0, none⟩)] w (ReadPost w bm s vo) := by
  obtain ⟨i0, hi, hz0, hz1, hz2⟩ := info_parts infoB
  obtain ⟨A, c, e1, e2, e3, e4, e5⟩ := h.input
  have k1 : w.cell? ⟨bm, 105, none⟩ = some (.slice A s.input.length c) := by rw [h.cell, e1]
  have k2 := h.frozen 105
  have hlt := h.lt
  unfold ReadPost
  cases hin : s.input with
  | nil =>
    rw [hin] at k1
    simp only [List.length_nil] at k1
    clear hin e1 e2 e5 h
    go_enter Tryd.func110, Tryd.ntmps110
    go_wp2
    go_ret
    exact .inl ⟨by trivial, rfl, rfl⟩
  | cons x r =>
    rw [hin] at k1 e2 e5 hb8
    have hs : Sl w .u8 A (x :: r) := e5.sl
    obtain ⟨bb, oo, rfl, hcell⟩ := hs.at_ (i := 0) (by simp)
    simp only [Nat.add_zero, List.getElem?_cons_zero, Option.getD_some] at hcell
    have hx := hb8 x (by simp)
    have hw : IntKind.i64.wrap x = x := IntWalk.i64_in _ (by omega)
    have ks : ∀ W : World, (Instr.slice 23 (.slice (some ⟨bb, oo, none⟩) (x :: r).length c) (some (.int .i64 1)) none none).run Tryd.prog W = .ok (.slice (if c = 1 then some ⟨bb, oo, none⟩ else (some (⟨bb, oo, none⟩ : Addr)).map (·.add 1)) ((x :: r).length - 1) (c - 1)) W := fun W =>
      run_slice_from1 W 23 5 i0 Tryd.underlying23 hi hz1 (some ⟨bb, oo, none⟩) (x :: r).length c .i64 (by simp)
    obtain ⟨A', hA'⟩ : ∃ A', (if c = 1 then some ⟨bb, oo, none⟩ else (some (⟨bb, oo, none⟩ : Addr)).map (·.add 1)) = A' := ⟨_, rfl⟩
    rw [hA'] at ks
    simp only [List.length_cons, Nat.add_sub_cancel] at ks k1 e2
    have hrow : SlFAt w .u8 (some (.slice A' r.length (c - 1))) r (Bad bm vo) := by
      refine ⟨A', c - 1, rfl, by omega, by omega, ?_, ?_⟩
      · intro hn; rw [← hA'] at hn; split at hn <;> simp at hn
      · intro i u hu
        have := e5 (i + 1) u (by simpa using hu)
        obtain ⟨ad, h1, h2, h3⟩ := this
        cases h1
        have hc1 : c ≠ 1 := by
          have : i < r.length := by
            rcases Nat.lt_or_ge i r.length with hl | hl
            · exact hl
            · simp [List.getElem?_eq_none (show (r.map (Value.int .u8)).length ≤ i by simpa using hl)] at hu
          omega
        rw [if_neg hc1] at hA'
        refine ⟨_, hA'.symm, ?_, ?_⟩
        · rw [add_add, Nat.add_comm 1 i]; exact h2
        · rw [block_add]; exact h3
    have HROW := Lib.hid hrow
    clear hrow hs e5 h hA' hin e1 e2 e3 e4
    go_enter Tryd.func110, Tryd.ntmps110
    go_wp2
    go_ret
    exact .inr ⟨x, r, _, rfl, rfl, rfl, HROW.out⟩
end
theorem shift_c (a : Nat) (w : World) (ha : a < 100) : Calls Tryd.prog 113 #[.int .i64 (a : Int)] w fun e w' => e = .returned (.int .i64 (Acc.shiftF (a : Int))) ∧ w = w' := by
  rw [Acc.shiftF_nat]
  by_cases h5 : 5 < a
  · rw [Nat.min_eq_right (by omega)]
    go_enter Tryd.func113, Tryd.ntmps113
    go_wp2
    go_loop [3, 6] (fun n i => ∃ k : Nat, k ≤ 5 ∧ i = .int .i64 k ∧ n = .int .i64 ((10 ^ k : Nat) : Int)) (fun _ i => 5 - (intOf i).toNat)
    case atStart => exact ⟨0, Nat.zero_le _, rfl, rfl⟩
    case round =>
      obtain ⟨k, hk, rfl, rfl⟩ := hrel
      by_cases hlt : k < 5
      · have hp : 10 ^ k ≤ 10 ^ 5 := Nat.pow_le_pow_right (by omega) (by omega)
        have hs : 10 ^ (k + 1) = 10 ^ k * 10 := Nat.pow_succ 10 k
        obtain ⟨p, hpe⟩ : ∃ p, p = 10 ^ k := ⟨_, rfl⟩
        rw [← hpe] at hp hs ⊢
        have HS := Lib.hid hs
        clear hpe hs
        have hw : IntKind.i64.wrap ((p : Int) * 10) = ((p * 10 : Nat) : Int) := by rw [IntWalk.i64_in _ (by omega)]; omega
        go_wp2
        go_round
        case rel => exact ⟨k + 1, by omega, by go_num, by rw [HS.out, Int.natCast_mul]; rfl⟩
        case measure => simp [intOf]; omega
      · have hke : k = 5 := by omega
        subst hke
        go_wp2
        go_ret
        exact ⟨rfl, rfl⟩
  · rw [Nat.min_eq_left (by omega)]
    go_enter Tryd.func113, Tryd.ntmps113
    go_wp2
    go_loop [3, 6] (fun n i => ∃ k : Nat, k ≤ a ∧ i = .int .i64 k ∧ n = .int .i64 ((10 ^ k : Nat) : Int)) (fun _ i => a - (intOf i).toNat)
    case atStart => exact ⟨0, Nat.zero_le _, rfl, rfl⟩
    case round =>
      obtain ⟨k, hk, rfl, rfl⟩ := hrel
      by_cases hlt : k < a
      · have hp : 10 ^ k ≤ 10 ^ 5 := Nat.pow_le_pow_right (by omega) (by omega)
        have hs : 10 ^ (k + 1) = 10 ^ k * 10 := Nat.pow_succ 10 k
        obtain ⟨p, hpe⟩ : ∃ p, p = 10 ^ k := ⟨_, rfl⟩
        rw [← hpe] at hp hs ⊢
        have HS := Lib.hid hs
        clear hpe hs
        have hw : IntKind.i64.wrap ((p : Int) * 10) = ((p * 10 : Nat) : Int) := by rw [IntWalk.i64_in _ (by omega)]; omega
        go_wp2
        go_round
        case rel => exact ⟨k + 1, by omega, by go_num, by rw [HS.out, Int.natCast_mul]; rfl⟩
        case measure => simp [intOf]; omega
      · have hke : k = a := by omega
        subst hke
        go_wp2
        go_ret
        exact ⟨rfl, rfl⟩
end Go.Proofs.YtbaahbpianingaaDoor
