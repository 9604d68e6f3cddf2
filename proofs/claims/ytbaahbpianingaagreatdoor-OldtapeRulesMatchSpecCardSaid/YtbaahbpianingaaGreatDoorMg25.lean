import Derived.Test.YtbaahbpianingaaGreatDoorMg18
import Derived.Test.YtbaahbpianingaaGreatDoorMg1
namespace Go.Proofs.YtbaahbpianingaaGreatDoor
open Go Go.Proofs Go.RowKit
open Tape (Rule Ts splitP)
set_option maxHeartbeats 6400000
set_option maxRecDepth 100000
theorem nums_sub (S : ByteArray) (f i : Nat) : numsT (S.extract f i) = ((numsT S).drop f).take (i - f) := by
  unfold numsT
  rw [ByteArray.data_extract, Array.toList_extract, List.extract_eq_take_drop, List.map_take, List.map_drop]
theorem nums_at {S : ByteArray} {i : Nat} (h : i < S.size) : (numsT S)[i]? = some ((S[i]'h).toNat : Int) := by
  unfold numsT
  rw [List.getElem?_map, List.getElem?_eq_getElem (by rw [Array.length_toList]; exact h)]
  rfl
/-- The pieces that have been found ahead of place i; the last one began at place f. -/
structure SpAt (S : ByteArray) (c : Int) (out : List ByteArray) (i f : Nat) : Prop where
  le : f ≤ i
  top : i ≤ S.size
  no : c ∉ ((numsT S).drop f).take (i - f)
  eq : splitP c (numsT S) = out.map numsT ++ splitP c ((numsT S).drop f)
  num : out.length ≤ f
theorem sp_zero (S : ByteArray) (c : Int) : SpAt S c [] 0 0 := ⟨Nat.le_refl _, Nat.zero_le _, by simp, by simp, Nat.le_refl _⟩
section
variable {S : ByteArray} {c : Int} {out : List ByteArray} {i f : Nat}
theorem sp_no (h : SpAt S c out i f) (hi : i < S.size) (hc : ((S[i]'hi).toNat : Int) ≠ c) : SpAt S c out (i + 1) f := by
  refine ⟨Nat.le_succ_of_le h.le, hi, ?_, h.eq, h.num⟩
  have hx : ((numsT S).drop f)[i - f]? = some ((S[i]'hi).toNat : Int) := by rw [List.getElem?_drop, show f + (i - f) = i by have := h.le; omega]; exact nums_at hi
  rw [show i + 1 - f = (i - f) + 1 by have := h.le; omega, List.take_add_one, hx]
  intro q
  rcases List.mem_append.1 q with e | e
  · exact h.no e
  · simp only [Option.toList_some, List.mem_singleton] at e; exact hc e.symm
theorem sp_hit (h : SpAt S c out i f) (hi : i < S.size) (hc : ((S[i]'hi).toNat : Int) = c) : SpAt S c (out ++ [S.extract f i]) (i + 1) (i + 1) := by
  have hx : (numsT S)[i]? = some c := by rw [nums_at hi, hc]
  have hd : (numsT S).drop f = ((numsT S).drop f).take (i - f) ++ c :: (numsT S).drop (i + 1) := by
    have h1 := List.take_append_drop (i - f) ((numsT S).drop f)
    have h2 : ((numsT S).drop f).drop (i - f) = c :: (numsT S).drop (i + 1) := by
      rw [List.drop_drop, show f + (i - f) = i by have := h.le; omega]
      obtain ⟨hl, he⟩ := List.getElem?_eq_some_iff.1 hx
      rw [List.drop_eq_getElem_cons hl, he]
    rw [h2] at h1
    exact h1.symm
  refine ⟨Nat.le_refl _, hi, by simp, ?_, ?_⟩
  · rw [h.eq, List.map_append, List.append_assoc]
    congr 1
    conv => lhs; rw [hd]
    rw [Tape.splitP_app _ h.no, List.map_cons, List.map_nil, nums_sub]
    rfl
  · have := h.num
    have := h.le
    rw [List.length_append]
    simp
    omega
theorem sp_end (h : SpAt S c out i f) (hi : ¬ i < S.size) : (out ++ [S.extract f S.size]).map numsT = splitP c (numsT S) := by
  have hl : (numsT S).length = S.size := numsT_len S
  have ht := h.top
  have he : i = S.size := by omega
  have hd : ((numsT S).drop f).take (i - f) = (numsT S).drop f := List.take_of_length_le (by rw [List.length_drop]; omega)
  have hn := h.no
  rw [hd] at hn
  rw [h.eq, Tape.splitP_none hn, List.map_append, List.map_cons, List.map_nil, nums_sub, ← he, hd]
end
theorem infoStr : (Tryz.prog.info? 9).map (fun i => (i.zero, i.size, i.bytes)) = some (some (.string ⟨#[]⟩), 1, 16) := by kernel_rfl
/-- What Split returns. -/
def SplRet (w : World) (S : ByteArray) (c : Int) (e : Ending) (w' : World) : Prop :=
  ∃ (P : List ByteArray) (A : Option Addr) (k : Nat), e = .returned (.slice A P.length k) ∧ P.map numsT = splitP c (numsT S) ∧ SlC w' A (P.map Value.string) ∧ P.length ≤ S.size + 1 ∧ Ext w w'
structure SplIs (w wx : World) (S : ByteArray) (c : Int) (out : List ByteArray) (i f : Nat) (v : Value) : Prop where
  own : wx.ownsRow w.heap.size 9 1 v out.length (out.map Value.string)
  at_ : SpAt S c out i f
  x : Ext w wx
theorem SplIs.app {w wx w2 : World} {S : ByteArray} {c : Int} {out : List ByteArray} {i f i2 f2 : Nat} {v v2 : Value} {p : ByteArray} (h : SplIs w wx S c out i f v) (ha : SpAt S c (out ++ [p]) i2 f2)
    (ho : w2.ownsRow w.heap.size 9 1 v2 (out.length + 1) (out.map Value.string ++ [.string p])) (hg : wx.grownBy w2 v.ownBlock) : SplIs w w2 S c (out ++ [p]) i2 f2 v2 := by
  refine ⟨?_, ha, ext_grown h.x hg (fun g hq => (own_lt h.own hq).1)⟩
  rw [List.length_append, List.map_append]
  exact ho
theorem spl_ret {w w2 : World} {S : ByteArray} {c : Int} {out : List ByteArray} {v2 : Value} {p : ByteArray} (hs : (out ++ [p]).map numsT = splitP c (numsT S)) (hl : out.length ≤ S.size)
    (ho : w2.ownsRow w.heap.size 9 1 v2 (out.length + 1) (out.map Value.string ++ [.string p])) (hx : Ext w w2) : SplRet w S c (.returned v2) w2 := by
  obtain ⟨A, k, rfl, _, _, _, h⟩ := own_sl ho
  refine ⟨out ++ [p], A, k, by rw [List.length_append]; rfl, hs, ?_, by rw [List.length_append]; simp; omega, hx⟩
  rw [List.map_append]
  exact h
theorem Split_c (S : ByteArray) (c : Int) (w : World) (hl : S.size ≤ 5000) (_hc : 0 ≤ c ∧ c < 256) : Calls Tryz.prog 42 #[.string S, .int .u8 c] w (SplRet w S c) := by
  obtain ⟨ir, hi, hz0, hz1, hz2⟩ := info_parts infoStr
  have HI := Lib.hid hi
  have HZ0 := Lib.hid hz0
  have HZ1 := Lib.hid hz1
  have HZ2 := Lib.hid hz2
  clear hi hz0 hz1 hz2
  go_enter Tryz.func42, Tryz.ntmps42
  go_wp2
  go_loopw [5, 6, 7] (fun t5 t6 t7 wx => ∃ (i f : Nat) (out : List ByteArray), t6 = .int .i64 (f : Int) ∧ t7 = .int .i64 (i : Int) ∧ SplIs w wx S c out i f t5) (fun _ _ t7 _ => S.size - (intOf t7).toNat)
  case atStart => exact ⟨0, 0, [], rfl, rfl, ⟨⟨rfl, .inl ⟨rfl, rfl⟩⟩, sp_zero S c, Ext.refl w⟩⟩
  case round =>
    obtain ⟨i, f, out, rfl, rfl, hrd⟩ := hrel
    have hfi := hrd.at_.le
    have hit := hrd.at_.top
    have hof := hrd.at_.num
    have HR := Lib.hid hrd
    have hb1 : w.heap.size ≤ wr.heap.size := hrd.x.size
    by_cases hi : i < S.size
    · by_cases hcc : ((S[i]'hi).toNat : Int) = c
      · have HHIT := Lib.hid (sp_hit hrd.at_ hi hcc)
        have HOW := Lib.hid (town_ext hrd.own ((Ext.refl wr).alloc (.cells #[.string (S.extract f i)] 9)))
        have HRA : Hid (SplIs w (wr.alloc (.cells #[.string (S.extract f i)] 9)) S c out i f u5) := Lib.hid ⟨HOW.out, hrd.at_, hrd.x.trans ((Ext.refl wr).alloc _)⟩
        have e1 : (((S[i]'hi).toNat : Int) == c) = true := by simpa using hcc
        clear hrd hcc
        go_wp2_with (at_builtin; refine wpList_append_sl rfl _ _ 63 rfl w.heap.size 9 ir _ 1 16 Tryz.underlying63 HI.out HZ0.out HZ1.out HZ2.out rfl (by decide) u5 out.length (out.map Value.string) rfl HOW.out (some ⟨wr.heap.size, 0, none⟩) 1 1 [.string (S.extract f i)] rfl (slc_at rfl [.string (S.extract f i)]) rfl (by intro u hu; rw [List.mem_singleton.1 hu]; rfl) (by unfold maxLen; omega) (by omega) (by simp; omega) ?_; intro v5 w5 ho5 hg5 _h5; have HN5 := Lib.hid (HRA.out.app HHIT.out ho5 hg5); clear ho5 hg5 _h5)
        go_roundw
        case rel => exact ⟨i + 1, i + 1, _, by go_num, by go_num, HN5.out⟩
        case measure => simp [intOf]; omega
      · have HNO := Lib.hid (sp_no hrd.at_ hi hcc)
        have HRN : Hid (SplIs w wr S c out (i + 1) f u5) := Lib.hid ⟨hrd.own, HNO.out, hrd.x⟩
        have e1 : (((S[i]'hi).toNat : Int) == c) = false := by simpa using hcc
        clear hrd hcc
        go_wp2
        go_roundw
        case rel => exact ⟨i + 1, f, out, rfl, by go_num, HRN.out⟩
        case measure => simp [intOf]; omega
    · have HEND := Lib.hid (sp_end hrd.at_ hi)
      have HOW := Lib.hid (town_ext hrd.own ((Ext.refl wr).alloc (.cells #[.string (S.extract f S.size)] 9)))
      have HX := Lib.hid (hrd.x.trans ((Ext.refl wr).alloc (.cells #[.string (S.extract f S.size)] 9)))
      have hfs : f ≤ S.size := by omega
      have hos : out.length ≤ S.size := by omega
      have HBL : Hid (∀ g, u5.ownBlock = some g → w.heap.size ≤ g) := Lib.hid (fun g hg => (own_lt hrd.own hg).1)
      clear hrd
      go_wp2_with (at_builtin; refine wpList_append_sl rfl _ _ 63 rfl w.heap.size 9 ir _ 1 16 Tryz.underlying63 HI.out HZ0.out HZ1.out HZ2.out rfl (by decide) u5 out.length (out.map Value.string) rfl HOW.out (some ⟨wr.heap.size, 0, none⟩) 1 1 [.string (S.extract f S.size)] rfl (slc_at rfl [.string (S.extract f S.size)]) rfl (by intro u hu; rw [List.mem_singleton.1 hu]; rfl) (by unfold maxLen; omega) (by omega) (by simp; omega) ?_; intro v5 w5 ho5 hg5 _h5; have HN5 := Lib.hid (spl_ret HEND.out hos ho5 (ext_grown HX.out hg5 HBL.out)); clear ho5 hg5 _h5)
      go_ret
      exact HN5.out
end Go.Proofs.YtbaahbpianingaaGreatDoor
namespace Tape
open Acc (dec numF digB)
def bigS : List Int := [57, 50, 50, 51, 51, 55, 50, 48, 51, 54, 56, 53, 52, 55, 55, 53, 56, 48, 55]
def lessI : List Int → List Int → Bool
  | _, [] => false
  | [], _ :: _ => true
  | a :: x, b :: y => decide (a < b) || (decide (a = b) && lessI x y)
/-- What the specification's count returns. -/
def countF (l : List Int) : Option Nat :=
  if l = [] ∨ 19 < l.length ∨ (1 < l.length ∧ l[0]? = some 48) then none
  else if l.all digB = false then none
  else if l.length = 19 ∧ (lessI l bigS || decide (l = bigS)) = false then none
  else if 3 < l.length then some 99 else some (numF l)
def clipN (n : Nat) : Nat := if 1000 ≤ n then 99 else n
theorem num_acc : ∀ (l : List Int) (a : Nat), l.foldl (fun n c => 10 * n + (c - 48).toNat) a = a * 10 ^ l.length + numF l
  | [], a => by simp [numF]
  | c :: l, a => by
    have h1 := num_acc l (10 * a + (c - 48).toNat)
    have h2 := num_acc l (10 * 0 + (c - 48).toNat)
    have e : numF (c :: l) = l.foldl (fun n c => 10 * n + (c - 48).toNat) (10 * 0 + (c - 48).toNat) := rfl
    rw [List.foldl_cons, h1, e, h2, List.length_cons, Nat.pow_succ]
    have : (10 * a + (c - 48).toNat) * 10 ^ l.length = a * (10 ^ l.length * 10) + (10 * 0 + (c - 48).toNat) * 10 ^ l.length := by
      rw [Nat.add_mul, Nat.mul_zero, Nat.zero_add, Nat.mul_comm 10 a, Nat.mul_assoc, Nat.mul_comm 10]
    omega
theorem num_cons (c : Int) (l : List Int) : numF (c :: l) = (c - 48).toNat * 10 ^ l.length + numF l := by
  have h := num_acc l (10 * 0 + (c - 48).toNat)
  have e : numF (c :: l) = l.foldl (fun n c => 10 * n + (c - 48).toNat) (10 * 0 + (c - 48).toNat) := rfl
  rw [e, h, Nat.mul_zero, Nat.zero_add]
theorem num_ge {c : Int} {l : List Int} (h : 49 ≤ c) : 10 ^ l.length ≤ numF (c :: l) := by
  rw [num_cons]
  have : 1 * 10 ^ l.length ≤ (c - 48).toNat * 10 ^ l.length := Nat.mul_le_mul_right _ (by omega)
  omega
/-- A number's digits: no leading zero. -/
def Canon (l : List Int) : Prop := l ≠ [] ∧ l.all digB = true ∧ ¬ (1 < l.length ∧ l[0]? = some 48)
theorem canon_dec : ∀ n : Nat, Canon (dec n) := by
  intro n
  induction n using Nat.strongRecOn with
  | _ n ih =>
    refine ⟨?_, ?_, ?_⟩
    · rw [dec]; split <;> simp
    · rw [List.all_eq_true]; intro c hc; exact Acc.dig_iff.2 (dec_mem n c hc)
    · by_cases h : n < 10
      · rw [Acc.dec_small h]; simp
      · rw [Acc.dec_big h]
        rintro ⟨_, h2⟩
        obtain ⟨i1, i2, i3⟩ := ih (n / 10) (by omega)
        have h0 : 0 < (dec (n / 10)).length := List.length_pos_iff.2 i1
        rw [List.getElem?_append_left h0] at h2
        by_cases h3 : 1 < (dec (n / 10)).length
        · exact i3 ⟨h3, h2⟩
        · have h4 : n / 10 < 10 := by
            rcases Nat.lt_or_ge (n / 10) 10 with q | q
            · exact q
            · exfalso
              apply h3
              rw [Acc.dec_big (by omega), List.length_append]
              have := List.length_pos_iff.2 (ih (n / 10 / 10) (by omega)).1
              simp
              omega
          rw [Acc.dec_small h4] at h2
          simp at h2
          omega
theorem dec_canon {l : List Int} (h : Canon l) : l = dec (numF l) := by
  obtain ⟨h1, h2, h3⟩ := h
  have key : ∀ (k : Nat) (l : List Int), l.length = k → l ≠ [] → l.all digB = true → ¬ (1 < l.length ∧ l[0]? = some 48) → l = dec (numF l) := by
    intro k
    induction k with
    | zero => intro l hl h1; exact absurd (List.eq_nil_of_length_eq_zero hl) h1
    | succ k ih =>
      intro l hl h1 h2 h3
      obtain ⟨m, c, rfl⟩ : ∃ m c, l = m ++ [c] := ⟨l.dropLast, l.getLast h1, (List.dropLast_concat_getLast h1).symm⟩
      rw [List.all_append, Bool.and_eq_true] at h2
      have hc : 48 ≤ c ∧ c ≤ 57 := by have := h2.2; simp only [List.all_cons, List.all_nil, Bool.and_true] at this; exact Acc.dig_iff.1 this
      rw [Acc.numF_snoc]
      by_cases hm : m = []
      · subst hm
        show [c] = _
        rw [show numF [] = 0 from rfl, Acc.dec_small (by omega)]
        congr 1
        omega
      · have hml : m.length = k := by rw [List.length_append] at hl; simpa using hl
        have hpos := List.length_pos_iff.2 hm
        have hhead : ¬ m[0]? = some 48 := fun q => h3 ⟨by rw [List.length_append]; simp; omega, by rw [List.getElem?_append_left hpos]; exact q⟩
        have ih' := ih m hml hm h2.1 (fun q => hhead q.2)
        obtain ⟨a, r, rfl⟩ : ∃ a r, m = a :: r := List.exists_cons_of_ne_nil hm
        have ha : 48 ≤ a ∧ a ≤ 57 := by have := h2.1; rw [List.all_cons, Bool.and_eq_true] at this; exact Acc.dig_iff.1 this.1
        have ha2 : 49 ≤ a := by
          have : ¬ a = 48 := fun q => hhead (by simp [q])
          omega
        have hge := num_ge (l := r) ha2
        have hp : 1 ≤ 10 ^ r.length := Nat.one_le_pow _ _ (by decide)
        have hd : (10 * numF (a :: r) + (c - 48).toNat) / 10 = numF (a :: r) := by omega
        have hr : (10 * numF (a :: r) + (c - 48).toNat) % 10 = (c - 48).toNat := by omega
        rw [Acc.dec_big (by omega), hd, hr, ← ih']
        congr 2
        omega
  exact key _ l rfl h1 h2 h3
theorem less_num : ∀ (a b : List Int), a.length = b.length → a.all digB = true → b.all digB = true → lessI a b = decide (numF a < numF b)
  | [], [], _, _, _ => by simp [lessI, numF]
  | x :: a, y :: b, h, ha, hb => by
    rw [List.all_cons, Bool.and_eq_true] at ha hb
    have hl : a.length = b.length := by simpa using h
    have ih := less_num a b hl ha.2 hb.2
    have hx := Acc.dig_iff.1 ha.1
    have hy := Acc.dig_iff.1 hb.1
    have na := Acc.num_lt a ha.2
    have nb := Acc.num_lt b hb.2
    rw [lessI, ih, num_cons, num_cons, hl]
    rw [hl] at na
    rw [Bool.eq_iff_iff]
    simp only [Bool.or_eq_true, Bool.and_eq_true, decide_eq_true_eq]
    have mul : ∀ p q : Nat, p < q → p * 10 ^ b.length + 10 ^ b.length ≤ q * 10 ^ b.length := fun p q hpq => by
      have := Nat.mul_le_mul_right (10 ^ b.length) (show p + 1 ≤ q from hpq)
      rw [Nat.add_mul, Nat.one_mul] at this
      exact this
    constructor
    · rintro (h1 | ⟨rfl, h2⟩)
      · have := mul (x - 48).toNat (y - 48).toNat (by omega)
        omega
      · omega
    · intro h1
      rcases Int.lt_trichotomy x y with q | q | q
      · exact .inl q
      · subst q
        exact .inr ⟨rfl, by omega⟩
      · exfalso
        have := mul (y - 48).toNat (x - 48).toNat (by omega)
        omega
  | [], _ :: _, h, _, _ => by simp at h
  | _ :: _, [], h, _, _ => by simp at h
theorem big_num : numF bigS = 9223372036854775807 := by decide +kernel
theorem big_dig : bigS.all digB = true := by decide +kernel
theorem num_eq {a b : List Int} (hl : a.length = b.length) (ha : a.all digB = true) (hb : b.all digB = true) (h : numF a = numF b) : a = b := by
  rw [← Acc.fix_num a.length a rfl ha, ← Acc.fix_num a.length b hl.symm hb, h]
theorem le_big {l : List Int} (h : l.length = 19) (hd : l.all digB = true) : (lessI l bigS || decide (l = bigS)) = decide (numF l < 9223372036854775808) := by
  rw [less_num l bigS (by rw [h]; rfl) hd big_dig, big_num, Bool.eq_iff_iff]
  simp only [Bool.or_eq_true, decide_eq_true_eq]
  constructor
  · rintro (q | q)
    · omega
    · rw [q, big_num]; omega
  · intro q
    by_cases e : numF l = 9223372036854775807
    · exact .inr (num_eq (by rw [h]; rfl) hd big_dig (by rw [e, big_num]))
    · exact .inl (by omega)
theorem pow_le {a b : Nat} (h : a ≤ b) : 10 ^ a ≤ 10 ^ b := Nat.pow_le_pow_right (by decide) h
theorem count_rd (l : List Int) : countF l = (rdNum l).map clipN := by
  unfold countF
  by_cases hc : Canon l
  · obtain ⟨h1, h2, h3⟩ := hc
    have hd := dec_canon ⟨h1, h2, h3⟩
    have hlt := Acc.num_lt l h2
    have hge : 1 < l.length → 10 ^ (l.length - 1) ≤ numF l := by
      intro hl
      obtain ⟨a, r, rfl⟩ : ∃ a r, l = a :: r := List.exists_cons_of_ne_nil h1
      have ha : 48 ≤ a ∧ a ≤ 57 := by rw [List.all_cons, Bool.and_eq_true] at h2; exact Acc.dig_iff.1 h2.1
      have : ¬ a = 48 := fun q => h3 ⟨hl, by simp [q]⟩
      exact num_ge (l := r) (by omega)
    by_cases h4 : 19 < l.length
    · rw [if_pos (.inr (.inl h4))]
      have h5 := hge (by omega)
      have h6 := pow_le (a := 19) (b := l.length - 1) (by omega)
      have h7 : (10 : Nat) ^ 19 = 10000000000000000000 := by decide
      unfold rdNum
      rw [if_neg (fun q => by omega)]
      rfl
    · rw [if_neg (by rintro (q | q | q); exact h1 q; exact h4 q; exact h3 q), if_neg (by rw [h2]; decide)]
      have hn : (¬ (l.length = 19 ∧ (lessI l bigS || decide (l = bigS)) = false)) ↔ numF l < 9223372036854775808 := by
        by_cases h5 : l.length = 19
        · rw [le_big h5 h2]
          simp [h5]
        · have h6 := pow_le (a := l.length) (b := 18) (by omega)
          have h7 : (10 : Nat) ^ 18 = 1000000000000000000 := by decide
          exact ⟨fun _ => by omega, fun _ q => h5 q.1⟩
      by_cases h5 : numF l < 9223372036854775808
      · rw [if_neg (hn.2 h5)]
        unfold rdNum
        rw [if_pos (show l = dec (numF l) ∧ numF l < 9223372036854775808 from ⟨hd, h5⟩)]
        show _ = some (clipN (numF l))
        unfold clipN
        by_cases h6 : 3 < l.length
        · have h7 := hge (by omega)
          have h8 := pow_le (a := 3) (b := l.length - 1) (by omega)
          have h9 : (10 : Nat) ^ 3 = 1000 := by decide
          rw [if_pos h6, if_pos (by omega)]
        · have h8 := pow_le (a := l.length) (b := 3) (by omega)
          have h9 : (10 : Nat) ^ 3 = 1000 := by decide
          rw [if_neg h6, if_neg (by omega)]
      · have : l.length = 19 ∧ (lessI l bigS || decide (l = bigS)) = false := Classical.not_not.1 (fun q => h5 (hn.1 q))
        rw [if_pos this]
        unfold rdNum
        rw [if_neg (fun q => h5 q.2)]
        rfl
  · have hr : rdNum l = none := by
      unfold rdNum
      rw [if_neg]
      rintro ⟨q, _⟩
      exact hc (by rw [q]; exact canon_dec _)
    rw [hr, Option.map_none]
    by_cases h1 : l = [] ∨ 19 < l.length ∨ (1 < l.length ∧ l[0]? = some 48)
    · rw [if_pos h1]
    · rw [if_neg h1]
      simp only [not_or] at h1
      rw [if_pos]
      have : ¬ l.all digB = true := fun q => hc ⟨h1.1, q, h1.2.2⟩
      simpa using this
/-- The rule as the specification reads it: great numbers are 99. -/
def clipI (n : Int) : Int := if n < 0 then n else ((clipN n.toNat : Nat) : Int)
def clipR (r : Rule) : Rule := ⟨clipI r.st, clipI r.sy, clipI r.wr, r.mv, clipI r.nx⟩
theorem clip_small {n : Int} (h : n ≤ 15) : clipI n = n := by
  unfold clipI clipN
  split
  · rfl
  · rw [if_neg (by omega)]; omega
theorem clip_in (n lo hi : Int) (hh : hi ≤ 15) : decide (lo ≤ clipI n ∧ clipI n ≤ hi) = decide (lo ≤ n ∧ n ≤ hi) := by
  by_cases h : n ≤ 15
  · rw [clip_small h]
  · have : clipI n ≥ 16 := by
      unfold clipI clipN
      rw [if_neg (by omega)]
      split
      · decide
      · omega
    rw [decide_eq_false (by omega), decide_eq_false (by omega)]
theorem ruleB_clip (r : Rule) : ruleB (clipR r) = ruleB r := by
  unfold ruleB clipR
  simp only
  rw [clip_in _ _ _ (by decide), clip_in _ _ _ (by decide), clip_in _ _ _ (by decide), clip_in _ _ _ (by decide)]
theorem clip_id {r : Rule} (h : ruleB r = true) : clipR r = r := by
  obtain ⟨h1, h2, h3, h4, h5⟩ := ruleB_iff.1 h
  unfold clipR
  rw [clip_small (by omega), clip_small (by omega), clip_small (by omega), clip_small (by omega)]
end Tape
