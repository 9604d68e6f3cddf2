import Derived.Test.YtbaahbpianingaaDoorMg1
import Derived.Shelf.Strings.OnBuilder
import Derived.Shelf.LaysC
import Derived.Shelf.Strconv.AtoiAll
import Derived.Shelf.Strings.Search3
import Derived.Shelf.Strings.Cut
import Derived.Shelf.Strings.Split
import Derived.Shelf.Slices.Reverse
import Derived.Ground.Names2Prog
import Derived.Shelf.Slices.Cells
import Derived.Test.YtbaahbpianingaaDoorProg
namespace Tape
open Acc (dec numF)
/-- The pieces between the separators. -/
def splitP {α : Type} [DecidableEq α] (c : α) : List α → List (List α)
  | [] => [[]]
  | x :: l => if x = c then [] :: splitP c l else match splitP c l with | [] => [[x]] | p :: ps => (x :: p) :: ps
def joinP {α : Type} (c : α) : List (List α) → List α
  | [] => []
  | [a] => a
  | a :: b :: r => a ++ c :: joinP c (b :: r)
section
variable {α : Type} [DecidableEq α]
theorem splitP_ne (c : α) : ∀ l : List α, splitP c l ≠ []
  | [] => by simp [splitP]
  | x :: l => by
    unfold splitP
    split
    · simp
    · split <;> simp
theorem splitP_cons (c : α) (l : List α) : ∃ p ps, splitP c l = p :: ps := by
  cases h : splitP c l with
  | nil => exact absurd h (splitP_ne c l)
  | cons p ps => exact ⟨p, ps, rfl⟩
theorem join_split (c : α) : ∀ l : List α, joinP c (splitP c l) = l
  | [] => rfl
  | x :: l => by
    have ih := join_split c l
    obtain ⟨p, ps, h⟩ := splitP_cons c l
    rw [splitP, h]
    rw [h] at ih
    split
    · rename_i e
      rw [joinP, ih, e]; rfl
    · cases ps with
      | nil => simp only [joinP] at ih ⊢; rw [ih]
      | cons q qs => simp only [joinP] at ih ⊢; rw [← ih]; rfl
theorem splitP_app {c : α} : ∀ {a : List α} (t : List α), c ∉ a → splitP c (a ++ c :: t) = a :: splitP c t
  | [], t, _ => by simp [splitP]
  | x :: a, t, h => by
    have hx : ¬ x = c := fun e => h (by rw [e]; simp)
    have ih := splitP_app (a := a) t (fun q => h (List.mem_cons_of_mem _ q))
    show splitP c (x :: (a ++ c :: t)) = _
    rw [splitP, if_neg hx, ih]
theorem splitP_none {c : α} : ∀ {a : List α}, c ∉ a → splitP c a = [a]
  | [], _ => rfl
  | x :: a, h => by
    have hx : ¬ x = c := fun e => h (by rw [e]; simp)
    rw [splitP, if_neg hx, splitP_none (fun q => h (List.mem_cons_of_mem _ q))]
theorem splitP_hit {c : α} : ∀ {l : List α}, c ∈ l → splitP c l = l.takeWhile (fun x => decide (x ≠ c)) :: splitP c ((l.dropWhile (fun x => decide (x ≠ c))).drop 1)
  | [], h => by simp at h
  | x :: l, h => by
    by_cases hx : x = c
    · rw [splitP, if_pos hx, List.takeWhile_cons_of_neg (by simp [hx]), List.dropWhile_cons_of_neg (by simp [hx])]
      rfl
    · have hl : c ∈ l := by
        rcases List.mem_cons.1 h with e | e
        · exact absurd e.symm hx
        · exact e
      rw [splitP, if_neg hx, splitP_hit hl, List.takeWhile_cons_of_pos (by simp [hx]), List.dropWhile_cons_of_pos (by simp [hx])]
theorem splitP_map {β : Type} [DecidableEq β] (f : α → β) (hf : ∀ x y, f x = f y → x = y) (c : α) : ∀ l : List α, splitP (f c) (l.map f) = (splitP c l).map (List.map f)
  | [] => rfl
  | x :: l => by
    obtain ⟨p, ps, h⟩ := splitP_cons c l
    rw [List.map_cons, splitP, splitP_map f hf c l, splitP, h]
    by_cases hx : x = c
    · rw [if_pos hx, if_pos (by rw [hx])]; rfl
    · rw [if_neg hx, if_neg (fun e => hx (hf _ _ e))]; rfl
end
theorem dec_mem : ∀ (n : Nat) (c : Int), c ∈ dec n → 48 ≤ c ∧ c ≤ 57 := by
  intro n
  induction n using Nat.strongRecOn with
  | _ n ih =>
    intro c hc
    rw [dec] at hc
    split at hc
    · rw [List.mem_singleton] at hc; omega
    · rcases List.mem_append.1 hc with e | e
      · exact ih (n / 10) (by omega) c e
      · rw [List.mem_singleton] at e; omega
theorem num_dec : ∀ n : Nat, numF (dec n) = n := by
  intro n
  induction n using Nat.strongRecOn with
  | _ n ih =>
    rw [dec]
    split
    · show 10 * 0 + ((48 : Int) + n - 48).toNat = n
      omega
    · rw [Acc.numF_snoc, ih (n / 10) (by omega)]
      omega
/-- A number without sign or leading zeros. -/
def rdNum (l : List Int) : Option Nat := if l = dec (numF l) ∧ numF l < 9223372036854775808 then some (numF l) else none
theorem rdNum_some {l : List Int} {n : Nat} (h : rdNum l = some n) : l = dec n := by
  unfold rdNum at h
  split at h
  · rename_i h1
    injection h with h
    rw [← h]; exact h1.1
  · cases h
theorem rdNum_dec {n : Nat} (h : n < 9223372036854775808) : rdNum (dec n) = some n := by
  unfold rdNum
  rw [num_dec, if_pos ⟨rfl, h⟩]
def moveC (m : Int) : Int := if m = -1 then 76 else if m = 0 then 83 else 82
def nextF (n : Int) : List Int := if 0 ≤ n then dec n.toNat else [72]
/-- A rule's line without its end. -/
def bodyR (r : Rule) : List Int := dec r.st.toNat ++ 32 :: (dec r.sy.toNat ++ 32 :: (dec r.wr.toNat ++ 32 :: ([moveC r.mv] ++ 32 :: nextF r.nx)))
def lineR (r : Rule) : List Int := bodyR r ++ [10]
def textR (L : List Rule) : List Int := L.flatMap lineR
def mvOf (d : List Int) : Option Int := if d = [76] then some (-1) else if d = [83] then some 0 else if d = [82] then some 1 else none
def nxOf (e : List Int) : Option Int := if e = [72] then some (-1) else (rdNum e).map (fun n : Nat => (n : Int))
def rdFive (a b c d e : List Int) : Option Rule :=
  match rdNum a, rdNum b, rdNum c, mvOf d, nxOf e with
  | some x, some y, some z, some m, some n => some ⟨x, y, z, m, n⟩
  | _, _, _, _, _ => none
def rdRule (l : List Int) : Option Rule :=
  match splitP 32 l with
  | [a, b, c, d, e] => rdFive a b c d e
  | _ => none
/-- The rules of lines; the last line is what lies behind the last line feed. -/
def rdL : Nat → List (List Int) → Except Nat (List Rule)
  | i, [] => .error i
  | i, [s] => if s = [] then .ok [] else .error i
  | i, s :: t :: rest => match rdRule s with
    | none => .error i
    | some r => match rdL (i + 1) (t :: rest) with
      | .error k => .error k
      | .ok L => .ok (r :: L)
theorem mv_code {d : List Int} {m : Int} (h : mvOf d = some m) : d = [moveC m] := by
  unfold mvOf at h
  split at h
  · rename_i e; cases h; exact e
  split at h
  · rename_i e; cases h; exact e
  split at h
  · rename_i e; cases h; exact e
  · cases h
theorem nx_code {e : List Int} {n : Int} (h : nxOf e = some n) : e = nextF n := by
  unfold nxOf at h
  split at h
  · rename_i q; cases h; exact q
  · rcases hr : rdNum e with _ | k
    · rw [hr] at h; cases h
    · rw [hr] at h
      have : (k : Int) = n := by simpa using h
      subst this
      unfold nextF
      rw [if_pos (by omega), rdNum_some hr, Int.toNat_natCast]
theorem five_body {a b c d e : List Int} {r : Rule} (h : rdFive a b c d e = some r) : a ++ 32 :: (b ++ 32 :: (c ++ 32 :: (d ++ 32 :: e))) = bodyR r := by
  unfold rdFive at h
  split at h
  · rename_i x y z m n h1 h2 h3 h4 h5
    injection h with h
    subst h
    unfold bodyR
    simp only [Int.toNat_natCast]
    rw [← rdNum_some h1, ← rdNum_some h2, ← rdNum_some h3, ← mv_code h4, ← nx_code h5]
  · cases h
theorem rule_body {l : List Int} {r : Rule} (h : rdRule l = some r) : bodyR r = l := by
  unfold rdRule at h
  split at h
  · rename_i a b c d e hs
    have := join_split 32 l
    rw [hs] at this
    rw [← five_body h]
    exact this
  · cases h
theorem dec_not {c : Int} (h : c < 48) (n : Nat) : c ∉ dec n := fun q => by have := dec_mem n c q; omega
theorem dec_not2 {c : Int} (h : 57 < c) (n : Nat) : c ∉ dec n := fun q => by have := dec_mem n c q; omega
theorem next_mem {n : Int} {c : Int} (h : c ∈ nextF n) : 48 ≤ c := by
  unfold nextF at h
  split at h
  · exact (dec_mem _ _ h).1
  · rw [List.mem_singleton.1 h]; decide
theorem move_ge (m : Int) : 76 ≤ moveC m := by
  unfold moveC; split
  · decide
  · split <;> decide
theorem move_read {r : Rule} (h : ruleB r = true) : mvOf [moveC r.mv] = some r.mv := by
  obtain ⟨_, _, _, r4, _⟩ := ruleB_iff.1 h
  have : r.mv = -1 ∨ r.mv = 0 ∨ r.mv = 1 := by omega
  rcases this with e | e | e <;> rw [e] <;> decide
theorem next_read {r : Rule} (h : ruleB r = true) : nxOf (nextF r.nx) = some r.nx := by
  obtain ⟨_, _, _, _, r5⟩ := ruleB_iff.1 h
  unfold nextF
  by_cases e : 0 ≤ r.nx
  · rw [if_pos e]
    unfold nxOf
    rw [if_neg (fun q => dec_not2 (c := 72) (by decide) r.nx.toNat (by rw [q]; simp)), rdNum_dec (by omega)]
    simp only [Option.map_some, Option.some.injEq]
    omega
  · rw [if_neg e]
    have : r.nx = -1 := by omega
    rw [this]
    decide
theorem body_read {r : Rule} (h : ruleB r = true) : rdRule (bodyR r) = some r := by
  obtain ⟨r1, r2, r3, r4, r5⟩ := ruleB_iff.1 h
  have hs : splitP 32 (bodyR r) = [dec r.st.toNat, dec r.sy.toNat, dec r.wr.toNat, [moveC r.mv], nextF r.nx] := by
    unfold bodyR
    rw [splitP_app _ (dec_not (by decide) _), splitP_app _ (dec_not (by decide) _), splitP_app _ (dec_not (by decide) _), splitP_app _ (by rw [List.mem_singleton]; have := move_ge r.mv; omega), splitP_none (fun q => by have := next_mem q; omega)]
  unfold rdRule
  rw [hs]
  simp only [rdFive, rdNum_dec (show r.st.toNat < 9223372036854775808 by omega), rdNum_dec (show r.sy.toNat < 9223372036854775808 by omega), rdNum_dec (show r.wr.toNat < 9223372036854775808 by omega), move_read h, next_read h]
  rw [Int.toNat_of_nonneg r1.1, Int.toNat_of_nonneg r2.1, Int.toNat_of_nonneg r3.1]
theorem body_nl (r : Rule) : (10 : Int) ∉ bodyR r := by
  unfold bodyR
  simp only [List.mem_append, List.mem_cons, not_or]
  refine ⟨dec_not (by decide) _, by decide, dec_not (by decide) _, by decide, dec_not (by decide) _, by decide, ⟨by have := move_ge r.mv; omega, by simp⟩, by decide, fun q => by have := next_mem q; omega⟩
theorem text_cons (r : Rule) (L : List Rule) : textR (r :: L) = bodyR r ++ 10 :: textR L := by
  show lineR r ++ textR L = _
  unfold lineR
  rw [List.append_assoc]; rfl
theorem lines_cons (r : Rule) (L : List Rule) : splitP 10 (textR (r :: L)) = bodyR r :: splitP 10 (textR L) := by
  rw [text_cons, splitP_app _ (body_nl r)]
theorem read_text : ∀ (L : List Rule) (i : Nat), (∀ r ∈ L, ruleB r = true) → rdL i (splitP 10 (textR L)) = .ok L
  | [], i, _ => rfl
  | r :: L, i, h => by
    rw [lines_cons]
    obtain ⟨p, ps, e⟩ := splitP_cons (10 : Int) (textR L)
    rw [e, rdL, body_read (h r (by simp)), ← e, read_text L (i + 1) (fun q hq => h q (List.mem_cons_of_mem _ hq))]
theorem text_join : ∀ (ls : List (List Int)) (i : Nat) (L : List Rule), rdL i ls = .ok L → textR L = joinP 10 ls
  | [], i, L, h => by simp [rdL] at h
  | [s], i, L, h => by
    rw [rdL] at h
    split at h
    · rename_i e
      injection h with h
      rw [← h, e]; rfl
    · cases h
  | s :: t :: rest, i, L, h => by
    rw [rdL] at h
    split at h
    · cases h
    · rename_i r hr
      split at h
      · cases h
      · rename_i M hM
        injection h with h
        rw [← h, text_cons, rule_body hr, text_join (t :: rest) (i + 1) M hM]
        rfl
theorem text_read {text : List Int} {i : Nat} {L : List Rule} (h : rdL i (splitP 10 text) = .ok L) : textR L = text := by
  rw [text_join _ _ _ h, join_split]
end Tape
/-
  DERIVED: THE SHELF's CONTRACTS AT THIS DUMP, IN PLAIN WORDS (tools/lay-plain.mjs out of 'TrydShelf.lean', which tools/lay-shelf.mjs wrote): THE SAME DECLARATIONS UNDER THE SAME NAMES: 'import', 'namespace', 'open', 'def', 'theorem' AND NOTHING ELSE: no command of the shelf's: FOR A HAND-IN. Each laying: the table of numbers ('.._ren') and one theorem, a field a fact of the dump's own or the kernel's comparison; each contract: ONE APPLICATION.
-/
namespace Go.Proofs
open Go.Shelf
def Tryd.lays156_ren : Go.Shelf.Ren := ⟨fun | 156 => 61 | 165 => 86 | 166 => 87 | 169 => 88 | 240 => 121 | 241 => 122 | 276 => 131 | 277 => 132 | n => n, fun | 31 => 90 | 9 => 9 | 3 => 3 | 4 => 4 | 0 => 0 | 20 => 20 | 72 => 117 | 76 => 120 | 70 => 115 | 37 => 23 | 75 => 119 | 127 => 130 | 164 => 138 | 5 => 5 | 80 => 99 | n => n, fun | n => n⟩
theorem Tryd.lays156 : Go.Proofs.Lays.n156 Tryd.prog Tryd.lays156_ren := {
  mixed := by kernel_rfl
  f156 := Tryd.func61.trans (congrArg some (by kernel_rfl))
  f165 := Tryd.func86.trans (congrArg some (by kernel_rfl))
  f166 := Tryd.func87.trans (congrArg some (by kernel_rfl))
  f169 := Tryd.func88.trans (congrArg some (by kernel_rfl))
  f240 := Tryd.func121.trans (congrArg some (by kernel_rfl))
  f241 := Tryd.func122.trans (congrArg some (by kernel_rfl))
  f276 := Tryd.func131.trans (congrArg some (by kernel_rfl))
  f277 := Tryd.func132.trans (congrArg some (by kernel_rfl))
  t0 := Tryd.underlying0
  a0 := Tryd.isAgg0
  z0 := Tryd.sizeOf0
  v0 := Tryd.zeroValue0
  t3 := Tryd.underlying3
  a3 := Tryd.isAgg3
  z3 := Tryd.sizeOf3
  v3 := Tryd.zeroValue3
  t4 := Tryd.underlying4
  a4 := Tryd.isAgg4
  z4 := Tryd.sizeOf4
  v4 := Tryd.zeroValue4
  t9 := Tryd.underlying9
  a9 := Tryd.isAgg9
  z9 := Tryd.sizeOf9
  v9 := Tryd.zeroValue9
  t20 := Tryd.underlying20
  a20 := Tryd.isAgg20
  z20 := Tryd.sizeOf20
  v20 := Tryd.zeroValue20
  t31 := Tryd.underlying90
  a31 := Tryd.isAgg90
  z31 := Tryd.sizeOf90
  v31 := Tryd.zeroValue90
  t37 := Tryd.underlying23
  a37 := Tryd.isAgg23
  z37 := Tryd.sizeOf23
  v37 := Tryd.zeroValue23
  t70 := Tryd.underlying115
  a70 := Tryd.isAgg115
  z70 := Tryd.sizeOf115
  v70 := Tryd.zeroValue115
  t72 := Tryd.underlying117
  a72 := Tryd.isAgg117
  z72 := Tryd.sizeOf117
  v72 := Tryd.zeroValue117
  t75 := Tryd.underlying119
  a75 := Tryd.isAgg119
  z75 := Tryd.sizeOf119
  v75 := Tryd.zeroValue119
  t76 := Tryd.underlying120
  a76 := Tryd.isAgg120
  z76 := Tryd.sizeOf120
  v76 := Tryd.zeroValue120
  t127 := Tryd.underlying130
  a127 := Tryd.isAgg130
  z127 := Tryd.sizeOf130
  v127 := Tryd.zeroValue130
  t164 := Tryd.underlying138
  a164 := Tryd.isAgg138
  z164 := Tryd.sizeOf138
  v164 := Tryd.zeroValue138 }
theorem Tryd.Builder_Extra_156 : Builder.Extra Tryd.prog Tryd.lays156_ren := {
  sizeBuilder := by kernel_rfl
  liesBuilder := by kernel_rfl
  t5 := Tryd.underlying5
  a5 := Tryd.isAgg5
  z5 := Tryd.sizeOf5
  v5 := Tryd.zeroValue5
  infoByte := by kernel_rfl
  cellsByte := by kernel_rfl
  sizeByte := by kernel_rfl
  neB5 := by decide }
open Go.RowKit in
/-- strings.Join: "Join concatenates the elements of its first argument to create a single string. The separator string sep is placed between elements in the resulting string.": HOWEVER MANY ELEMENTS. Below the heap's end the world is as it was. (LAID: no walk: one application.) -/
theorem Tryd.strings_Join (bk o c : Nat) (xs : List ByteArray) (sep : ByteArray) (w : World) (hcells : ∀ (j : Nat) x, xs[j]? = some x → w.cell? ⟨bk, o + j, none⟩ = some (.string x)) (hbk : bk < w.heap.size) (hN : xs.length ≤ 140737488355328) (hcap : xs.length ≤ c) (hlen : (Lib.join (xs.map (·.data.toList)) sep.data.toList).length ≤ 140737488355328) :
    Calls Tryd.prog 61 #[.slice (some ⟨bk, o, none⟩) xs.length c, .string sep] w fun e w' => e = .returned (.string ⟨(Lib.join (xs.map (·.data.toList)) sep.data.toList).toArray⟩) ∧ Below w.heap.size w w' := Any.strings_Join Tryd.lays156 Tryd.Builder_Extra_156 bk o c xs sep w hcells hbk hN hcap hlen
def Tryd.laysC172_ren : Go.Shelf.Ren := ⟨fun | 172 => 125 | 244 => 139 | 245 => 140 | 247 => 151 | 279 => 152 | 280 => 153 | 281 => 154 | 282 => 155 | 287 => 159 | 316 => 160 | 171 => 60 | 205 => 161 | 321 => 162 | 322 => 163 | 243 => 85 | 246 => 120 | 283 => 127 | 284 => 128 | 285 => 129 | 286 => 130 | 129 => 142 | 317 => 141 | 318 => 143 | 319 => 144 | 320 => 145 | 337 => 156 | 338 => 157 | n => n, fun | 9 => 9 | 3 => 3 | 75 => 119 | 76 => 120 | 4 => 4 | 5 => 5 | 167 => 154 | 37 => 23 | 0 => 0 | 85 => 155 | 2 => 2 | 168 => 157 | 53 => 133 | 175 => 161 | 46 => 142 | 210 => 165 | 127 => 130 | 145 => 177 | 143 => 175 | 21 => 21 | 171 => 132 | 173 => 136 | 212 => 146 | 51 => 108 | 20 => 20 | 213 => 147 | 232 => 167 | 233 => 168 | 80 => 99 | n => n, fun | 15 => 2 | 16 => 3 | 17 => 1 | 18 => 4 | 19 => 5 | n => n⟩
theorem Tryd.laysC172 : Go.Proofs.LaysC.n172 Tryd.prog Tryd.laysC172_ren := {
  mixed := by kernel_rfl
  f129 := Tryd.func142.trans (congrArg some (by kernel_rfl))
  f171 := Tryd.func60.trans (congrArg some (by kernel_rfl))
  f172 := Tryd.func125.trans (congrArg some (by kernel_rfl))
  f205 := Tryd.func161.trans (congrArg some (by kernel_rfl))
  f243 := Tryd.func85.trans (congrArg some (by kernel_rfl))
  f244 := Tryd.func139.trans (congrArg some (by kernel_rfl))
  f245 := Tryd.func140.trans (congrArg some (by kernel_rfl))
  f246 := Tryd.func120.trans (congrArg some (by kernel_rfl))
  f247 := Tryd.func151.trans (congrArg some (by kernel_rfl))
  f279 := Tryd.func152.trans (congrArg some (by kernel_rfl))
  f280 := Tryd.func153.trans (congrArg some (by kernel_rfl))
  f281 := Tryd.func154.trans (congrArg some (by kernel_rfl))
  f282 := Tryd.func155.trans (congrArg some (by kernel_rfl))
  f283 := Tryd.func127.trans (congrArg some (by kernel_rfl))
  f284 := Tryd.func128.trans (congrArg some (by kernel_rfl))
  f285 := Tryd.func129.trans (congrArg some (by kernel_rfl))
  f286 := Tryd.func130.trans (congrArg some (by kernel_rfl))
  f287 := Tryd.func159.trans (congrArg some (by kernel_rfl))
  f316 := Tryd.func160.trans (congrArg some (by kernel_rfl))
  f317 := Tryd.func141.trans (congrArg some (by kernel_rfl))
  f318 := Tryd.func143.trans (congrArg some (by kernel_rfl))
  f319 := Tryd.func144.trans (congrArg some (by kernel_rfl))
  f320 := Tryd.func145.trans (congrArg some (by kernel_rfl))
  f321 := Tryd.func162.trans (congrArg some (by kernel_rfl))
  f322 := Tryd.func163.trans (congrArg some (by kernel_rfl))
  f337 := Tryd.func156.trans (congrArg some (by kernel_rfl))
  f338 := Tryd.func157.trans (congrArg some (by kernel_rfl))
  t0 := Tryd.underlying0
  a0 := Tryd.isAgg0
  z0 := Tryd.sizeOf0
  v0 := Tryd.zeroValue0
  t2 := Tryd.underlying2
  a2 := Tryd.isAgg2
  z2 := Tryd.sizeOf2
  v2 := Tryd.zeroValue2
  t3 := Tryd.underlying3
  a3 := Tryd.isAgg3
  z3 := Tryd.sizeOf3
  v3 := Tryd.zeroValue3
  t4 := Tryd.underlying4
  a4 := Tryd.isAgg4
  z4 := Tryd.sizeOf4
  v4 := Tryd.zeroValue4
  t5 := Tryd.underlying5
  a5 := Tryd.isAgg5
  z5 := Tryd.sizeOf5
  v5 := Tryd.zeroValue5
  t9 := Tryd.underlying9
  a9 := Tryd.isAgg9
  z9 := Tryd.sizeOf9
  v9 := Tryd.zeroValue9
  t20 := Tryd.underlying20
  a20 := Tryd.isAgg20
  z20 := Tryd.sizeOf20
  v20 := Tryd.zeroValue20
  t21 := Tryd.underlying21
  a21 := Tryd.isAgg21
  z21 := Tryd.sizeOf21
  v21 := Tryd.zeroValue21
  t37 := Tryd.underlying23
  a37 := Tryd.isAgg23
  z37 := Tryd.sizeOf23
  v37 := Tryd.zeroValue23
  t46 := Tryd.underlying142
  a46 := Tryd.isAgg142
  z46 := Tryd.sizeOf142
  v46 := Tryd.zeroValue142
  t51 := Tryd.underlying108
  a51 := Tryd.isAgg108
  z51 := Tryd.sizeOf108
  v51 := Tryd.zeroValue108
  t53 := Tryd.underlying133
  a53 := Tryd.isAgg133
  z53 := Tryd.sizeOf133
  v53 := Tryd.zeroValue133
  t75 := Tryd.underlying119
  a75 := Tryd.isAgg119
  z75 := Tryd.sizeOf119
  v75 := Tryd.zeroValue119
  t76 := Tryd.underlying120
  a76 := Tryd.isAgg120
  z76 := Tryd.sizeOf120
  v76 := Tryd.zeroValue120
  t85 := Tryd.underlying155
  a85 := Tryd.isAgg155
  z85 := Tryd.sizeOf155
  v85 := Tryd.zeroValue155
  t127 := Tryd.underlying130
  a127 := Tryd.isAgg130
  z127 := Tryd.sizeOf130
  v127 := Tryd.zeroValue130
  t143 := Tryd.underlying175
  a143 := Tryd.isAgg175
  z143 := Tryd.sizeOf175
  v143 := Tryd.zeroValue175
  t145 := Tryd.underlying177
  a145 := Tryd.isAgg177
  z145 := Tryd.sizeOf177
  v145 := Tryd.zeroValue177
  t167 := Tryd.underlying154
  a167 := Tryd.isAgg154
  z167 := Tryd.sizeOf154
  v167 := Tryd.zeroValue154
  t168 := Tryd.underlying157
  a168 := Tryd.isAgg157
  z168 := Tryd.sizeOf157
  v168 := Tryd.zeroValue157
  t171 := Tryd.underlying132
  a171 := Tryd.isAgg132
  z171 := Tryd.sizeOf132
  v171 := Tryd.zeroValue132
  t173 := Tryd.underlying136
  a173 := Tryd.isAgg136
  z173 := Tryd.sizeOf136
  v173 := Tryd.zeroValue136
  t175 := Tryd.underlying161
  a175 := Tryd.isAgg161
  z175 := Tryd.sizeOf161
  v175 := Tryd.zeroValue161
  t210 := Tryd.underlying165
  a210 := Tryd.isAgg165
  z210 := Tryd.sizeOf165
  v210 := Tryd.zeroValue165
  t212 := Tryd.underlying146
  a212 := Tryd.isAgg146
  z212 := Tryd.sizeOf146
  v212 := Tryd.zeroValue146
  t213 := Tryd.underlying147
  a213 := Tryd.isAgg147
  z213 := Tryd.sizeOf147
  t232 := Tryd.underlying167
  a232 := Tryd.isAgg167
  z232 := Tryd.sizeOf167
  v232 := Tryd.zeroValue167
  t233 := Tryd.underlying168
  a233 := Tryd.isAgg168
  z233 := Tryd.sizeOf168
  v233 := Tryd.zeroValue168
  g15 := by kernel_rfl
  g16 := by kernel_rfl
  g17 := by kernel_rfl
  g18 := by kernel_rfl
  g19 := by kernel_rfl
  t80 := Tryd.underlying99
  a80 := Tryd.isAgg99
  z80 := Tryd.sizeOf99
  v80 := Tryd.zeroValue99
  i0 := by kernel_rfl
  i2 := by kernel_rfl
  i3 := by kernel_rfl
  i4 := by kernel_rfl
  i5 := by kernel_rfl
  i9 := by kernel_rfl
  i20 := by kernel_rfl
  i21 := by kernel_rfl
  i37 := by kernel_rfl
  i46 := by kernel_rfl
  i51 := by kernel_rfl
  i53 := by kernel_rfl
  i75 := by kernel_rfl
  i76 := by kernel_rfl
  i80 := by kernel_rfl
  i85 := by kernel_rfl
  i127 := by kernel_rfl
  i143 := by kernel_rfl
  i145 := by kernel_rfl
  i167 := by kernel_rfl
  i168 := by kernel_rfl
  i171 := by kernel_rfl
  i173 := by kernel_rfl
  i175 := by kernel_rfl
  i210 := by kernel_rfl
  i212 := by kernel_rfl
  i232 := by kernel_rfl
  i233 := by kernel_rfl
  m15 := by kernel_rfl
  m16 := by kernel_rfl
  m17 := by kernel_rfl
  m18 := by kernel_rfl
  m19 := by kernel_rfl
  c0 := by kernel_rfl
  c2 := by kernel_rfl
  c3 := by kernel_rfl
  c4 := by kernel_rfl
  c5 := by kernel_rfl
  c9 := by kernel_rfl
  c20 := by kernel_rfl
  c21 := by kernel_rfl
  c37 := by kernel_rfl
  c46 := by kernel_rfl
  c51 := by kernel_rfl
  c53 := by kernel_rfl
  c75 := by kernel_rfl
  c76 := by kernel_rfl
  c80 := by kernel_rfl
  c85 := by kernel_rfl
  c127 := by kernel_rfl
  c143 := by kernel_rfl
  c145 := by kernel_rfl
  c167 := by kernel_rfl
  c168 := by kernel_rfl
  c171 := by kernel_rfl
  c173 := by kernel_rfl
  c175 := by kernel_rfl
  c210 := by kernel_rfl
  c212 := by kernel_rfl
  c213 := by kernel_rfl
  c232 := by kernel_rfl
  c233 := by kernel_rfl }
open Go.RowKit in
/-- strconv.Atoi, AT EVERY STRING THAT SPELLS AN int ('Lib.atoiAll .. = .ok v'; of whatever length: leading zeros count): v, AND NO ERROR. The world: as it was, or with the one new row that '[]byte(..)' lays. (LAID: no walk: one application.) -/
theorem Tryd.strconv_Atoi_ok (s : ByteArray) (hmax : s.size ≤ 9223372036854775806) (v : Int) (h : Lib.atoiAll s.data.toList = .ok v) (w : World) :
    Calls Tryd.prog 125 #[.string s] w fun e w' => e = .returned (.tuple #[.int .i64 v, .nilIface]) ∧ (w' = w ∨ ∃ t, w' = Lib.bytesWorld w 5 t) := Any.strconv_Atoi_ok Tryd.laysC172 s hmax v h w
def Tryd.lays143_ren : Go.Shelf.Ren := ⟨fun | 143 => 92 | 219 => 123 | 217 => 133 | 225 => 134 | 224 => 135 | 267 => 136 | 266 => 146 | 314 => 147 | n => n, fun | 9 => 9 | 3 => 3 | 4 => 4 | 5 => 5 | 46 => 142 | 146 => 149 | 51 => 108 | n => n, fun | 1 => 0 | n => n⟩
theorem Tryd.lays143 : Go.Proofs.Lays.n143 Tryd.prog Tryd.lays143_ren := {
  mixed := by kernel_rfl
  f143 := Tryd.func92.trans (congrArg some (by kernel_rfl))
  f217 := Tryd.func133.trans (congrArg some (by kernel_rfl))
  f219 := Tryd.func123.trans (congrArg some (by kernel_rfl))
  f224 := Tryd.func135.trans (congrArg some (by kernel_rfl))
  f225 := Tryd.func134.trans (congrArg some (by kernel_rfl))
  f266 := Tryd.func146.trans (congrArg some (by kernel_rfl))
  f267 := Tryd.func136.trans (congrArg some (by kernel_rfl))
  f314 := Tryd.func147.trans (congrArg some (by kernel_rfl))
  t3 := Tryd.underlying3
  a3 := Tryd.isAgg3
  z3 := Tryd.sizeOf3
  v3 := Tryd.zeroValue3
  t4 := Tryd.underlying4
  a4 := Tryd.isAgg4
  z4 := Tryd.sizeOf4
  v4 := Tryd.zeroValue4
  t5 := Tryd.underlying5
  a5 := Tryd.isAgg5
  z5 := Tryd.sizeOf5
  v5 := Tryd.zeroValue5
  t9 := Tryd.underlying9
  a9 := Tryd.isAgg9
  z9 := Tryd.sizeOf9
  v9 := Tryd.zeroValue9
  t46 := Tryd.underlying142
  a46 := Tryd.isAgg142
  z46 := Tryd.sizeOf142
  v46 := Tryd.zeroValue142
  t51 := Tryd.underlying108
  a51 := Tryd.isAgg108
  z51 := Tryd.sizeOf108
  v51 := Tryd.zeroValue108
  t146 := Tryd.underlying149
  a146 := Tryd.isAgg149
  z146 := Tryd.sizeOf149
  v146 := Tryd.zeroValue149
  g1 := by kernel_rfl }
open Go.RowKit Go.Lib in
/-- strings.Index: "Index returns the index of the first instance of substr in s, or -1 if substr is not present in s.": IT RETURNS 'Lib.index s substr'; the world is as it was. (LAID: no walk: one application.) -/
theorem Tryd.strings_Index (s sub : ByteArray) (m : Int) (w : World) (hs : s.size < 4294967281) (hm : w.cell? ⟨0, 0, none⟩ = some (.int .i64 m)) :
    Calls Tryd.prog 92 #[.string s, .string sub] w fun e w' => e = .returned (.int .i64 (Lib.index s.data.toList sub.data.toList)) ∧ w' = w := Any.strings_Index Tryd.lays143 s sub m w hs hm
def Tryd.lays145_ren : Go.Shelf.Ren := ⟨fun | 145 => 62 | 220 => 89 | 219 => 123 | 217 => 133 | 225 => 134 | 224 => 135 | 267 => 136 | 266 => 146 | 314 => 147 | n => n, fun | 9 => 9 | 4 => 4 | 59 => 92 | 3 => 3 | 5 => 5 | 46 => 142 | 146 => 149 | 51 => 108 | n => n, fun | 1 => 0 | n => n⟩
theorem Tryd.lays145 : Go.Proofs.Lays.n145 Tryd.prog Tryd.lays145_ren := {
  mixed := by kernel_rfl
  f145 := Tryd.func62.trans (congrArg some (by kernel_rfl))
  f217 := Tryd.func133.trans (congrArg some (by kernel_rfl))
  f219 := Tryd.func123.trans (congrArg some (by kernel_rfl))
  f220 := Tryd.func89.trans (congrArg some (by kernel_rfl))
  f224 := Tryd.func135.trans (congrArg some (by kernel_rfl))
  f225 := Tryd.func134.trans (congrArg some (by kernel_rfl))
  f266 := Tryd.func146.trans (congrArg some (by kernel_rfl))
  f267 := Tryd.func136.trans (congrArg some (by kernel_rfl))
  f314 := Tryd.func147.trans (congrArg some (by kernel_rfl))
  t3 := Tryd.underlying3
  a3 := Tryd.isAgg3
  z3 := Tryd.sizeOf3
  v3 := Tryd.zeroValue3
  t4 := Tryd.underlying4
  a4 := Tryd.isAgg4
  z4 := Tryd.sizeOf4
  v4 := Tryd.zeroValue4
  t5 := Tryd.underlying5
  a5 := Tryd.isAgg5
  z5 := Tryd.sizeOf5
  v5 := Tryd.zeroValue5
  t9 := Tryd.underlying9
  a9 := Tryd.isAgg9
  z9 := Tryd.sizeOf9
  v9 := Tryd.zeroValue9
  t46 := Tryd.underlying142
  a46 := Tryd.isAgg142
  z46 := Tryd.sizeOf142
  v46 := Tryd.zeroValue142
  t51 := Tryd.underlying108
  a51 := Tryd.isAgg108
  z51 := Tryd.sizeOf108
  v51 := Tryd.zeroValue108
  t59 := Tryd.underlying92
  a59 := Tryd.isAgg92
  z59 := Tryd.sizeOf92
  v59 := Tryd.zeroValue92
  t146 := Tryd.underlying149
  a146 := Tryd.isAgg149
  z146 := Tryd.sizeOf149
  v146 := Tryd.zeroValue149
  g1 := by kernel_rfl }
open Go.RowKit Go.Lib in
/-- strings.Cut: "Cut slices s around the first instance of sep, returning the text before and after sep. The found result reports whether sep appears in s. If sep does not appear in s, cut returns s, "", false.": IT RETURNS 'Lib.cut s sep'; the world is as it was but for the count of draws. (LAID: no walk: one application.) -/
theorem Tryd.strings_Cut (s sep : ByteArray) (m : Int) (w : World) (hs : s.size < 4294967281) (hm : w.cell? ⟨0, 0, none⟩ = some (.int .i64 m)) :
    Calls Tryd.prog 62 #[.string s, .string sep] w fun e w' => e = .returned (.tuple #[.string ⟨(Lib.cut s.data.toList sep.data.toList).1.toArray⟩, .string ⟨(Lib.cut s.data.toList sep.data.toList).2.1.toArray⟩, .bool (Lib.cut s.data.toList sep.data.toList).2.2]) ∧ ∃ n, w' = w.drewN n := Any.strings_Cut Tryd.lays145 s sep m w hs hm
def Tryd.lays146_ren : Go.Shelf.Ren := ⟨fun | 146 => 90 | 221 => 124 | 268 => 137 | 138 => 138 | 143 => 92 | 195 => 148 | 197 => 149 | 218 => 150 | 219 => 123 | 260 => 158 | 217 => 133 | 225 => 134 | 224 => 135 | 267 => 136 | 266 => 146 | 314 => 147 | n => n, fun | 9 => 9 | 31 => 90 | 3 => 3 | 4 => 4 | 0 => 0 | 105 => 152 | 21 => 21 | 5 => 5 | 46 => 142 | 119 => 169 | 139 => 172 | 138 => 171 | 146 => 149 | 51 => 108 | n => n, fun | 1 => 0 | 3 => 6 | 4 => 7 | n => n⟩
theorem Tryd.lays146 : Go.Proofs.Lays.n146 Tryd.prog Tryd.lays146_ren := {
  mixed := by kernel_rfl
  f138 := Tryd.func138.trans (congrArg some (by kernel_rfl))
  f143 := Tryd.func92.trans (congrArg some (by kernel_rfl))
  f146 := Tryd.func90.trans (congrArg some (by kernel_rfl))
  f195 := Tryd.func148.trans (congrArg some (by kernel_rfl))
  f197 := Tryd.func149.trans (congrArg some (by kernel_rfl))
  f217 := Tryd.func133.trans (congrArg some (by kernel_rfl))
  f218 := Tryd.func150.trans (congrArg some (by kernel_rfl))
  f219 := Tryd.func123.trans (congrArg some (by kernel_rfl))
  f221 := Tryd.func124.trans (congrArg some (by kernel_rfl))
  f224 := Tryd.func135.trans (congrArg some (by kernel_rfl))
  f225 := Tryd.func134.trans (congrArg some (by kernel_rfl))
  f260 := Tryd.func158.trans (congrArg some (by kernel_rfl))
  f266 := Tryd.func146.trans (congrArg some (by kernel_rfl))
  f267 := Tryd.func136.trans (congrArg some (by kernel_rfl))
  f268 := Tryd.func137.trans (congrArg some (by kernel_rfl))
  f314 := Tryd.func147.trans (congrArg some (by kernel_rfl))
  t0 := Tryd.underlying0
  a0 := Tryd.isAgg0
  z0 := Tryd.sizeOf0
  v0 := Tryd.zeroValue0
  t3 := Tryd.underlying3
  a3 := Tryd.isAgg3
  z3 := Tryd.sizeOf3
  v3 := Tryd.zeroValue3
  t4 := Tryd.underlying4
  a4 := Tryd.isAgg4
  z4 := Tryd.sizeOf4
  v4 := Tryd.zeroValue4
  t5 := Tryd.underlying5
  a5 := Tryd.isAgg5
  z5 := Tryd.sizeOf5
  v5 := Tryd.zeroValue5
  t9 := Tryd.underlying9
  a9 := Tryd.isAgg9
  z9 := Tryd.sizeOf9
  v9 := Tryd.zeroValue9
  t21 := Tryd.underlying21
  a21 := Tryd.isAgg21
  z21 := Tryd.sizeOf21
  v21 := Tryd.zeroValue21
  t31 := Tryd.underlying90
  a31 := Tryd.isAgg90
  z31 := Tryd.sizeOf90
  v31 := Tryd.zeroValue90
  t46 := Tryd.underlying142
  a46 := Tryd.isAgg142
  z46 := Tryd.sizeOf142
  v46 := Tryd.zeroValue142
  t51 := Tryd.underlying108
  a51 := Tryd.isAgg108
  z51 := Tryd.sizeOf108
  v51 := Tryd.zeroValue108
  t105 := Tryd.underlying152
  a105 := Tryd.isAgg152
  z105 := Tryd.sizeOf152
  v105 := Tryd.zeroValue152
  t119 := Tryd.underlying169
  a119 := Tryd.isAgg169
  z119 := Tryd.sizeOf169
  t138 := Tryd.underlying171
  a138 := Tryd.isAgg171
  z138 := Tryd.sizeOf171
  v138 := Tryd.zeroValue171
  t139 := Tryd.underlying172
  a139 := Tryd.isAgg172
  z139 := Tryd.sizeOf172
  v139 := Tryd.zeroValue172
  t146 := Tryd.underlying149
  a146 := Tryd.isAgg149
  z146 := Tryd.sizeOf149
  v146 := Tryd.zeroValue149
  g1 := by kernel_rfl
  g3 := by kernel_rfl
  g4 := by kernel_rfl }
open Go.RowKit Go.Lib in
/-- strings.Split. (LAID: no walk: one application.) -/
theorem Tryd.strings_Split (s sep : ByteArray) (m : Int) (w : World) (hs : s.size < 4294967281) (hm : w.cell? ⟨0, 0, none⟩ = some (.int .i64 m)) (h1 : 1 ≤ sep.size) :
    Calls Tryd.prog 90 #[.string s, .string sep] w fun e w' =>
      e = .returned (.slice (some ⟨w.heap.size, 0, none⟩) (Lib.countB s sep + 1) (Lib.countB s sep + 1)) ∧ w' = w.alloc (.cells ((Lib.splitB sep 0 (Lib.countB s sep) s).map Value.string).toArray 9) := Any.strings_Split Tryd.lays146 (by kernel_rfl) s sep m w hs hm h1
def Tryd.lays112_ren : Go.Shelf.Ren := ⟨fun | 112 => 64 | n => n, fun | 28 => 26 | 3 => 3 | 4 => 4 | 0 => 0 | n => n, fun | n => n⟩
theorem Tryd.lays112 : Go.Proofs.Lays.n112 Tryd.prog Tryd.lays112_ren := {
  mixed := by kernel_rfl
  f112 := Tryd.func64.trans (congrArg some (by kernel_rfl))
  t0 := Tryd.underlying0
  a0 := Tryd.isAgg0
  z0 := Tryd.sizeOf0
  v0 := Tryd.zeroValue0
  t3 := Tryd.underlying3
  a3 := Tryd.isAgg3
  z3 := Tryd.sizeOf3
  v3 := Tryd.zeroValue3
  t4 := Tryd.underlying4
  a4 := Tryd.isAgg4
  z4 := Tryd.sizeOf4
  v4 := Tryd.zeroValue4
  t28 := Tryd.underlying26
  a28 := Tryd.isAgg26
  z28 := Tryd.sizeOf26
  v28 := Tryd.zeroValue26 }
open Go.RowKit Go.Lib Go.Sort in
/-- slices.Reverse at []int, of an argument: the n cells hold the elements in reverse. (LAID: no walk: one application.) -/
theorem Tryd.slices_Reverse_int_cells (b off n c : Nat) (zs : List Int) (w : World) (hz : n ≤ zs.length) (hbig : n ≤ 9223372036854775807) (hc : ∀ j, j < zs.length → w.cell? ⟨b, off + j, none⟩ = some (.int .i64 (zs.getD j 0))) (hf : ∀ j, j < n → w.frozen? ⟨b, off + j, none⟩ = false) :
    Calls Tryd.prog 64 #[.slice (some ⟨b, off, none⟩) n c] w fun e w' => e = .returned (.tuple #[]) ∧ ∃ q, w' = (w.drewN q).setCells b off ((zs.take n).reverse.map (Value.int .i64)) := Any.slices_Reverse_int_cells Tryd.lays112 b off n c zs w hz hbig hc hf
end Go.Proofs
