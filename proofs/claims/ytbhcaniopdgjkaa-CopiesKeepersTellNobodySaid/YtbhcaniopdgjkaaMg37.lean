import Derived.Test.YtbhcaniopdgjkaaMg36
import Derived.Test.YtbhcaniopdgjkaaMg24
import Derived.Test.YtbhcaniopdgjkaaMg15
import Derived.Lib.SlKept
import Derived.Lib.SliceRun
namespace Go.Proofs.Ytbhcaniopdgjkaa
open Go Go.Proofs Go.RowKit
open Plain (SiteD)
set_option maxHeartbeats 1000000
set_option maxRecDepth 100000
/-- The three sites of the check at the start. -/
def chL : List SiteD := [⟨[97], [1], 5, 0⟩, ⟨[98], [1], 3, 0⟩, ⟨[99], [2], 4, 0⟩]
def chW (w : World) : World :=
  ((((w.alloc (.cells #[.int .i64 1] 3)).alloc (.cells #[.int .i64 1] 3)).alloc (.cells #[.int .i64 2] 3)).alloc
      (.cells #[.string ⟨#[97]⟩, .slice (some ⟨w.heap.size, 0, none⟩) 1 1, .int .i64 5, .int .i64 0, .string ⟨#[98]⟩, .slice (some ⟨w.heap.size + 1, 0, none⟩) 1 1, .int .i64 3, .int .i64 0, .string ⟨#[99]⟩, .slice (some ⟨w.heap.size + 1 + 1, 0, none⟩) 1 1, .int .i64 4, .int .i64 0] 52))
theorem ch_sites (w : World) : Sites (chW w) (some ⟨w.heap.size + 1 + 1 + 1, 0, none⟩) chL := by
  have b0 : (chW w).heap[w.heap.size]? = some (.cells (([1] : List Int).map (Value.int .i64)).toArray 3 (0, 0)) := by
    unfold chW
    simp only [alloc_heap, alloc_size]
    rw [if_neg (by omega), if_neg (by omega), if_neg (by omega), if_pos trivial]; rfl
  have b1 : (chW w).heap[w.heap.size + 1]? = some (.cells (([1] : List Int).map (Value.int .i64)).toArray 3 (0, 0)) := by
    unfold chW
    simp only [alloc_heap, alloc_size]
    rw [if_neg (by omega), if_neg (by omega), if_pos trivial]; rfl
  have b2 : (chW w).heap[w.heap.size + 1 + 1]? = some (.cells (([2] : List Int).map (Value.int .i64)).toArray 3 (0, 0)) := by
    unfold chW
    simp only [alloc_heap, alloc_size]
    rw [if_neg (by omega), if_pos trivial]; rfl
  have b3 : (chW w).heap[w.heap.size + 1 + 1 + 1]? = some (.cells #[.string ⟨#[97]⟩, .slice (some ⟨w.heap.size, 0, none⟩) 1 1, .int .i64 5, .int .i64 0, .string ⟨#[98]⟩, .slice (some ⟨w.heap.size + 1, 0, none⟩) 1 1, .int .i64 3, .int .i64 0, .string ⟨#[99]⟩, .slice (some ⟨w.heap.size + 1 + 1, 0, none⟩) 1 1, .int .i64 4, .int .i64 0] 52 (0, 0)) := by
    unfold chW
    simp only [alloc_heap, alloc_size]
    rw [if_pos trivial]
  intro i s hs
  refine ⟨_, _, rfl, ?_⟩
  match i, hs with
  | 0, hs =>
    cases hs
    exact ⟨⟨⟨#[97]⟩, blk_cell b3 0, rfl, by decide⟩, ⟨_, 1, blk_cell b3 1, by decide, by decide, (fun h => by cases h), sl_blk b0⟩, blk_cell b3 2, blk_cell b3 3, by unfold I64; decide, by unfold I64; decide⟩
  | 1, hs =>
    cases hs
    exact ⟨⟨⟨#[98]⟩, blk_cell b3 4, rfl, by decide⟩, ⟨_, 1, blk_cell b3 5, by decide, by decide, (fun h => by cases h), sl_blk b1⟩, blk_cell b3 6, blk_cell b3 7, by unfold I64; decide, by unfold I64; decide⟩
  | 2, hs =>
    cases hs
    exact ⟨⟨⟨#[99]⟩, blk_cell b3 8, rfl, by decide⟩, ⟨_, 1, blk_cell b3 9, by decide, by decide, (fun h => by cases h), sl_blk b2⟩, blk_cell b3 10, blk_cell b3 11, by unfold I64; decide, by unfold I64; decide⟩
  | n + 3, hs => simp [chL] at hs
theorem chW_ext (w : World) : Ext w (chW w) := ((((Ext.refl w).alloc _).alloc _).alloc _).alloc _
theorem ch_plan : planR chL 1 1 = ([1, 2], 7, (0, 0)) := by kernel_rfl
theorem ch_plan2 : planR chL 2 1 = ([], 0, (12, -1)) := by kernel_rfl
theorem ch_keep : keepR chL 2 0 = ([1, 2], 7, (0, 0)) := by kernel_rfl
theorem ch_rest : restR chL [1, 2] [2] 0 1 = ([], 0, (0, 0)) := by
  unfold restR
  rw [← spec_rest (by kernel_rfl)]
  kernel_rfl
theorem ch_hold : holdsFault chL [0, 1] 1 1 = (0, 0) ∧ holdF chL 1 1 [0, 1] = false := ⟨by kernel_rfl, by kernel_rfl⟩
end Go.Proofs.Ytbhcaniopdgjkaa
namespace Go.Proofs.Ytbhcaniopdgjkaa
open Go Go.Proofs Go.RowKit
open Plain (SiteD)
set_option maxHeartbeats 1000000
set_option maxRecDepth 100000
/-- The first place of an element with a property. -/
def FirstAt (p : Int → Bool) (l : List Int) (r : Int) : Prop := (r = -1 ∧ l.any p = false) ∨ ∃ (i : Nat) (x : Int), r = i ∧ l[i]? = some x ∧ p x = true ∧ (l.take i).any p = false
theorem IndexFunc78_c (A : Option Addr) (l : List Int) (c : Nat) (B : Nat) (p : Int → Bool) (w : World) (hl : l.length ≤ maxLen) (h1 : Sl w .i64 A l)
    (hp : ∀ x, Calls Try.prog 78 #[.int .i64 x, .pointer (some ⟨B, 0, none⟩)] w fun e w' => e = .returned (.bool (p x)) ∧ w = w') :
    Calls Try.prog 92 #[.slice A l.length c, .func (.func 78) #[] #[.pointer (some ⟨B, 0, none⟩)]] w fun e w' => ∃ r : Int, e = .returned (.int .i64 r) ∧ FirstAt p l r ∧ w = w' := by
  unfold maxLen at hl
  obtain ⟨q, hq⟩ : ∃ q, q = l.length := ⟨_, rfl⟩
  rw [← hq] at hl ⊢
  have HQ := Lib.hid hq
  have HP := Lib.hid hp
  clear hq hp
  go_enter Try.func92, Try.ntmps92
  go_wp2
  go_loop [8] (fun i => ∃ k : Nat, k ≤ q ∧ i = .int .i64 k ∧ noneTo p l k) (fun i => q - (intOf i).toNat)
  case atStart => exact ⟨0, Nat.zero_le _, rfl, by simp [noneTo]⟩
  case round =>
    obtain ⟨k, hk, rfl, hr⟩ := hrel
    have HR := Lib.hid hr
    clear hr
    by_cases hlt : k < q
    · have hkl : k < l.length := by rw [← HQ.out]; exact hlt
      obtain ⟨b, o, x, rfl, hx, ha⟩ := h1.at2 hkl
      clear hkl
      cases hb : p x with
      | true =>
        have HF : Hid (FirstAt p l (k : Int)) := Or.inr ⟨k, x, rfl, hx.out, hb, HR.out⟩
        go_wp2_with (go_at_call 78; refine (HP.out _).mono ?_; rintro e w' ⟨rfl, rfl⟩)
        go_ret
        exact ⟨k, rfl, HF.out, rfl⟩
      | false =>
        go_wp2_with (go_at_call 78; refine (HP.out _).mono ?_; rintro e w' ⟨rfl, rfl⟩)
        go_round
        case rel => exact ⟨k + 1, by omega, by go_num, any_take HR.out hx.out hb⟩
        case measure => simp [intOf]; omega
    · have HF : Hid (FirstAt p l (-1)) := Or.inl ⟨rfl, any_full HR.out (by rw [← HQ.out]; omega)⟩
      go_wp2
      go_ret
      exact ⟨-1, rfl, HF.out, rfl⟩
end Go.Proofs.Ytbhcaniopdgjkaa
namespace Go.Proofs.Ytbhcaniopdgjkaa
open Go Go.Proofs Go.RowKit Go.Sort
open Plain (SiteD)
set_option maxHeartbeats 2000000
set_option maxRecDepth 100000
theorem firstAt_ex (p : Int → Bool) : ∀ l : List Int, ∃ r, FirstAt p l r
  | [] => ⟨-1, .inl ⟨rfl, rfl⟩⟩
  | x :: l => by
    cases h : p x with
    | true => exact ⟨((0 : Nat) : Int), .inr ⟨0, x, rfl, rfl, h, rfl⟩⟩
    | false =>
      obtain ⟨r, ⟨rfl, h2⟩ | ⟨i, y, rfl, h2, h3, h4⟩⟩ := firstAt_ex p l
      · exact ⟨-1, .inl ⟨rfl, by simp [h, h2]⟩⟩
      · exact ⟨((i + 1 : Nat) : Int), .inr ⟨i + 1, y, rfl, by simpa using h2, h3, by rw [List.take_succ_cons, List.any_cons, h, h4]; rfl⟩⟩
theorem firstAt_le {p : Int → Bool} {l : List Int} {i j : Nat} {y : Int} (h4 : (l.take i).any p = false) (k2 : l[j]? = some y) (k3 : p y = true) : i ≤ j := by
  rcases Nat.lt_or_ge j i with q | q
  · have : y ∈ l.take i := List.mem_of_getElem? (i := j) (by rw [List.getElem?_take, if_pos q]; exact k2)
    have := List.any_eq_false.1 h4 y this
    rw [k3] at this
    exact absurd rfl this
  · exact q
theorem firstAt_un {p : Int → Bool} {l : List Int} {r s : Int} (h : FirstAt p l r) (k : FirstAt p l s) : r = s := by
  rcases h with ⟨rfl, h2⟩ | ⟨i, x, rfl, h2, h3, h4⟩ <;> rcases k with ⟨rfl, k2⟩ | ⟨j, y, rfl, k2, k3, k4⟩
  · rfl
  · have := List.any_eq_false.1 h2 y (List.mem_of_getElem? k2)
    rw [k3] at this
    exact absurd rfl this
  · have := List.any_eq_false.1 k2 x (List.mem_of_getElem? h2)
    rw [h3] at this
    exact absurd rfl this
  · have a := firstAt_le h4 k2 k3
    have b := firstAt_le k4 h2 h3
    omega
theorem put_self {w : World} {g : Nat} {cur : Array Value} {zs : List Int} (h : w.heap[g]? = some (.cells cur 3 (0, 0))) (ht : cur.toList.take zs.length = zs.map (Value.int .i64)) : putRow (Value.int .i64) w g 0 zs.toArray = w :=
  putRow_self (Value.int .i64) w g 0 zs.toArray (own_holds h ht)
theorem ahead_zero (w : World) : Sort.ahead w 0 = w := rfl
theorem DeleteFunc_c (w : World) (base : Nat) (v : Value) (zs : List Int) (ho : w.ownsRow base 3 1 v zs.length (zs.map (Value.int .i64))) (hl : zs.length ≤ 1000) (B : Nat) (p : Int → Bool)
    (hp : ∀ w', Below base w w' → ∀ x, Calls Try.prog 78 #[.int .i64 x, .pointer (some ⟨B, 0, none⟩)] w' fun e w'' => e = .returned (.bool (p x)) ∧ w' = w'') :
    Calls Try.prog 77 #[v, .func (.func 78) #[] #[.pointer (some ⟨B, 0, none⟩)]] w fun e w' => ∃ v', e = .returned v' ∧ w'.ownsRow base 3 1 v' (zs.filter fun x => !p x).length ((zs.filter fun x => !p x).map (Value.int .i64)) ∧ Below base w w' := by
  obtain ⟨r0, hr0⟩ := firstAt_ex p zs
  obtain ⟨R, rc, hv, _, _, _, hsl⟩ := own_sl ho
  have HIF0 : Calls Try.prog 92 #[.slice R zs.length rc, .func (.func 78) #[] #[.pointer (some ⟨B, 0, none⟩)]] w fun e w' => e = .returned (.int .i64 r0) ∧ w = w' := by
    refine (IndexFunc78_c R zs rc B p w (by unfold maxLen; omega) hsl (hp w (Below.refl _ _))).mono ?_
    rintro e w' ⟨r, rfl, hF, rfl⟩
    rw [firstAt_un hF hr0]
    exact ⟨rfl, rfl⟩
  rcases hr0 with ⟨rfl, hany⟩ | ⟨k0, x0, rfl, hx0, hpx, hno⟩
  · have hfil : (zs.filter fun x => !p x) = zs := List.filter_eq_self.2 fun x hx => by
      have := List.any_eq_false.1 hany x hx
      simpa using this
    rw [hfil]
    have HO := Lib.hid ho
    subst hv
    have HIF := Lib.hid HIF0
    clear HIF0 ho hsl hp hany hfil
    generalize zs.length = n at *
    go_enter Try.func77, Try.ntmps77
    go_wp2_with (go_at_call 92; refine HIF.out.mono ?_; rintro e w' ⟨rfl, rfl⟩)
    go_ret
    exact ⟨_, rfl, HO.out, Below.refl _ _⟩
  · have hk0 : k0 < zs.length := (List.getElem?_eq_some_iff.1 hx0).1
    rcases ho.2 with ⟨_, h0⟩ | ⟨g, cap, cur, hv2, hb, hg, hn, hm, hsz, ht⟩
    · omega
    rw [Nat.mul_one] at ht hsz
    rw [hv2] at hv
    cases hv
    subst hv2
    obtain ⟨d, hd⟩ : ∃ d : Array Int, d = zs.toArray := ⟨_, rfl⟩
    have hds : zs.length = d.size := by rw [hd]; simp
    have HD := Lib.hid hd
    have hget : ∀ j, j < zs.length → zs[j]? = some d[j]! := fun j hj => by rw [hd, getElem!_pos zs.toArray j (by simpa using hj), List.getElem?_eq_getElem hj]; simp
    obtain ⟨kp, HK⟩ : ∃ kp : Nat → Bool, Hid (kp = fun j => !p d[j]!) := ⟨_, rfl⟩
    have hfil : (zs.filter fun x => !p x) = Lib.keptUpTo kp d d.size := by
      rw [HK.out, Lib.keptUpTo_filter (fun x => !p x) d, hd]
    rw [hfil]
    have hkeep : ∀ j, j < k0 → kp j = true := fun j hj => by
      rw [HK.out]
      show (!p d[j]!) = true
      have hj := hget j (by omega)
      cases hq : p d[j]! with
      | false => rfl
      | true => have := firstAt_le hno hj hq; omega
    have hdrop : kp k0 = false := by
      rw [HK.out]
      show (!p d[k0]!) = false
      have := hget k0 hk0
      rw [hx0] at this
      injection this with this
      rw [← this, hpx]
      rfl
    have hH0 : Holds (Value.int .i64) w g 0 d := by rw [hd]; exact own_holds hg ht
    have HC : Hid (∀ (dk : Array Int) (u : Int), Calls Try.prog 78 #[.int .i64 u, .pointer (some ⟨B, 0, none⟩)] (putRow (Value.int .i64) w g 0 dk) fun e w' => e = .returned (.bool (p u)) ∧ putRow (Value.int .i64) w g 0 dk = w') :=
      fun dk u => hp _ (put_below (w := w) 0 dk hb) u
    have HEND : Hid (∀ l : List Int, l.length ≤ d.size → ∀ m : List Int, (l ++ m).length = d.size → (putRow (Value.int .i64) w g 0 (l ++ m).toArray).ownsRow base 3 1 (.slice (some ⟨g, 0, none⟩) l.length rc) l.length (l.map (Value.int .i64)) ∧ Below base w (putRow (Value.int .i64) w g 0 (l ++ m).toArray)) := by
      intro l hl m hlm
      refine ⟨⟨by simp, .inr ⟨g, rc, _, rfl, hb, put_blk hg 0 _, by omega, hm, by simp [putCells, hsz], ?_⟩⟩, put_below (w := w) 0 _ hb⟩
      rw [Nat.mul_one]
      have := put_cells_take (l ++ m) cur (by omega)
      have h2 : ((putCells (Value.int .i64) 0 (l ++ m).toArray cur).toList.take (l ++ m).length).take l.length = l.map (Value.int .i64) := by
        rw [this, List.map_append, List.take_left' (by simp)]
      rw [List.take_take, Nat.min_eq_left (by simp)] at h2
      exact h2
    have HH := Lib.hid hH0
    have HPS : Hid (putRow (Value.int .i64) w g 0 d = w) := by rw [hd]; exact put_self hg ht
    have HIF := Lib.hid HIF0
    have hne1 : ((k0 : Int) == -1) = false := beq_eq_false_iff_ne.2 (by omega)
    rw [hds] at HIF hk0 hl hn ⊢
    clear HIF0 ho hsl hp hg ht hH0 hno hpx hx0 hget hfil hd hds hm hsz
    go_enter Try.func77, Try.ntmps77
    go_wp2_with (go_at_call 92; refine HIF.out.mono ?_; rintro e w' ⟨rfl, rfl⟩)
    go_loopg [5, 6, 7] d.size (fun gg s5 s6 _ wr => ∃ (i j : Nat) (dk : Array Int), s5 = .int .i64 i ∧ s6 = .int .i64 j ∧ j ≤ d.size ∧ d.size - j ≤ gg ∧ wr = putRow (Value.int .i64) w g 0 dk ∧ Hid (Lib.KeptInv kp d j i dk))
    case atStart => exact ⟨k0, k0 + 1, d, rfl, by go_num, by omega, by omega, HPS.out.symm, Lib.KeptInv.start hkeep hdrop⟩
    case round =>
      obtain ⟨i, j, dk, rfl, rfl, hjd, hgg, hwr, I2⟩ := hrel
      have hI := I2.out
      have hij := hI.lt
      have hds := hI.size
      have hHk : Holds (Value.int .i64) wr g 0 dk := by rw [hwr]; exact holds_putRow (Value.int .i64) _ g 0 d dk HH.out hds
      have W2 : Hid (wr = putRow (Value.int .i64) w g 0 dk) := hwr
      by_cases hlt : j < d.size
      · have hltz : (j : Int) < (d.size : Int) := by omega
        obtain ⟨cj, _⟩ := hHk j (by omega)
        obtain ⟨ci, fi⟩ := hHk i (by omega)
        rw [hI.high j (by omega)] at cj
        rw [Nat.zero_add] at cj ci fi
        have hcall := HC.out dk d[j]!
        rw [← hwr] at hcall
        clear hHk hI hwr
        generalize hu : d[j]! = u at cj hcall
        generalize dk[i]! = old at ci
        have C : Hid (d[j]! = u) := hu
        have HCALL := Lib.hid hcall
        clear hu hcall
        cases hq : p u with
        | false =>
          rw [hq] at HCALL
          go_wp2_with (go_at_call 78; refine HCALL.out.mono ?_; rintro e w' ⟨rfl, rfl⟩)
          go_roundg (d.size - (j + 1))
          case measure => omega
          case rel =>
            refine ⟨i + 1, j + 1, dk.setIfInBounds i u, by go_num, by go_num, by omega, Nat.le_refl _, ?_, (show Hid _ from ?_)⟩
            · have := putRow_set (Value.int .i64) w g 0 dk i u (by omega)
              rw [Nat.zero_add] at this
              rw [W2.out, this]
            · have := I2.out.keep hlt (by rw [HK.out]; show (!p d[j]!) = true; rw [C.out, hq]; rfl)
              rwa [C.out] at this
        | true =>
          rw [hq] at HCALL
          go_wp2_with (go_at_call 78; refine HCALL.out.mono ?_; rintro e w' ⟨rfl, rfl⟩)
          go_roundg (d.size - (j + 1))
          case measure => omega
          case rel => exact ⟨i, j + 1, dk, rfl, by go_num, by omega, Nat.le_refl _, W2.out, I2.out.skip (by rw [HK.out]; show (!p d[j]!) = false; rw [C.out, hq]; rfl)⟩
      · obtain rfl : j = d.size := by omega
        have hltz : ¬ (d.size : Int) < (d.size : Int) := by omega
        have hcl : ∀ ty, (Builtin.clear_ #[23] ty #[.slice (some ⟨g, i, none⟩) (d.size - i) (rc - i)]).run Try.prog wr = .ok (.tuple #[]) (wr.setCells g i (List.replicate (d.size - i) (Value.int .i64 0))) :=
          fun ty => Lib.run_clear_slice wr _ _ ty _ Try.underlying23 Try.zeroValue3 rfl rfl g i _ _ (by omega) (fun t ht => by have := (hHk (i + t) (by omega)).1; rw [Nat.zero_add] at this; rw [this]; rfl) (fun t ht => by have := (hHk (i + t) (by omega)).2; rw [Nat.zero_add] at this; exact this)
        clear hHk hI hwr
        go_wp2
        go_ret
        have hI := I2.out
        have hlen := hI.len
        have he : wr.setCells g i (List.replicate (d.size - i) (Value.int .i64 0)) = putRow (Value.int .i64) w g 0 (Lib.keptUpTo kp d d.size ++ List.replicate (d.size - i) 0).toArray := by
          rw [← hI.done 0]
          have := Lib.putRow_setCells (Value.int .i64) w g 0 (List.replicate (d.size - i) 0) dk i (by simp; omega)
          rw [List.map_replicate, Nat.zero_add] at this
          rw [W2.out, this]
        rw [he]
        obtain ⟨e1, e2⟩ := HEND.out (Lib.keptUpTo kp d d.size) (by omega) (List.replicate (d.size - i) 0) (by simp; omega)
        rw [hlen] at e1 ⊢
        exact ⟨_, rfl, e1, e2⟩
end Go.Proofs.Ytbhcaniopdgjkaa
