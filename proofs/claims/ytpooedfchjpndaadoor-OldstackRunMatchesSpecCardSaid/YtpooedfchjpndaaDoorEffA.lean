import Derived.Test.YtpooedfchjpndaaDoorEffS
import Derived.Deep.RegionLaw
import Derived.RegionTactic
import Derived.Deep.RegionHeld3
namespace Go.Proofs.YtpooedfchjpndaaDoor
open Go Go.Proofs Go.RowKit
set_option maxHeartbeats 800000
set_option maxRecDepth 100000
section
variable {w : World} {bm : Nat} {s : St} {cs : Array Value} {vd vr vo : Value}
theorem eff19 (h : MachIs w bm s cs vd vr vo) (n a b : Int) (hr : 1 ≤ s.ret.length ∧ s.ret.length ≤ 8) : Calls Tryd.prog 30 #[.pointer (some ⟨bm, 0, none⟩), .int .i64 19, .int .i64 n, .int .u16 a, .int .u16 b] w (EffRet w bm vd (effF s 19 n a b)) := by
  obtain ⟨r1, r2⟩ := hr
  obtain ⟨i0, hi, hz0, hz1, hz2⟩ := info_parts info3
  have k1 : w.cell? ⟨bm, 1, none⟩ = some (.int .i64 s.at_) := by rw [h.cell, h.at_]
  have k2 := h.frozen 1
  have k4 := h.frozen 3
  obtain ⟨A, c, hv, hc, ho, hb⟩ := own_take h.reto (m := s.ret.length - 1) (by omega)
  obtain ⟨_, _, hv', _, _, _, hsl⟩ := own_sl h.reto
  rw [hv] at hv'
  cases hv'
  have k3 : w.cell? ⟨bm, 3, none⟩ = some (.slice A s.ret.length c) := by rw [h.cell, h.ret, hv]
  have hs : Sl w .i64 A s.ret := hsl
  obtain ⟨bb, oo, x, rfl, hx, hcell⟩ := hs.at2 (i := s.ret.length - 1) (by omega)
  have ht : topF s.ret 0 = x := by
    unfold topF
    rw [if_pos (by omega), show s.ret.length - 1 - 0 = s.ret.length - 1 from rfl, hx.out]
    rfl
  have he : effF s 19 n a b = ([], { s with at_ := x, ret := s.ret.take (s.ret.length - 1) }) := by simp [effF, ht]
  rw [he]
  clear ht
  have ks : ∀ W : World, (Instr.slice 24 (.slice (some ⟨bb, oo, none⟩) s.ret.length c) none (some (.int .i64 ((s.ret.length : Int) - 1))) none).run Tryd.prog W = .ok (.slice (some ⟨bb, oo, none⟩) (s.ret.length - 1) c) W := fun W => by
    have := run_slice_to (P := Tryd.prog) W 24 3 i0 Tryd.underlying24 hi (some ⟨bb, oo, none⟩) s.ret.length c (s.ret.length - 1) .i64 (by omega)
    rwa [show ((s.ret.length - 1 : Nat) : Int) = (s.ret.length : Int) - 1 from by omega] at this
  have hne : bb ≠ bm := by
    have := own_ne h.reto h.blk (by decide)
    rw [hv] at this
    simpa [Value.ownBlock] using this
  have hh := setAt h x
  have hrow : RowTo (w.setCell ⟨bm, 1, none⟩ (.int .i64 x)) (w.setCell ⟨bm, 1, none⟩ (.int .i64 x)) bm 3 vr (.slice (some ⟨bb, oo, none⟩) (s.ret.length - 1) c) (s.ret.take (s.ret.length - 1)).length ((s.ret.take (s.ret.length - 1)).map (Value.int .i64)) := by
    refine ⟨?_, ⟨rfl, rfl, rfl, Nat.le_refl _, fun _ _ _ => rfl⟩, .inl hb⟩
    rw [List.length_take, Nat.min_eq_left (by omega), List.map_take]
    exact own_keep ho fun g hg => Below.heap_setCell w _ _ g (by rw [hb] at hg; intro e; exact own_ne h.reto h.blk (by decide) (by rw [hg, e]))
  have hfin := hh.newRet hrow
  have HFIN := Lib.hid hfin
  have HH := Lib.hid h
  clear hh hrow hfin h hs hsl ho hv he hb
  go_enter Tryd.func30, Tryd.ntmps30
  go_wp2
  go_ret
  exact ⟨none, 0, _, _, vo, rfl, SlC.nil _ _, HFIN.out, (below_set _ _ _ _).trans (below_set _ _ _ _)⟩
theorem add_add (a : Addr) (i j : Nat) : (a.add i).add j = a.add (i + j) := by
  unfold Addr.add
  by_cases hi : i = 0 <;> by_cases hj : j = 0 <;> simp [hi, hj, Nat.add_assoc]
theorem eff22 (h : MachIs w bm s cs vd vr vo) (n a b : Int) (hb8 : Byt s.input) : Calls Tryd.prog 30 #[.pointer (some ⟨bm, 0, none⟩), .int .i64 22, .int .i64 n, .int .u16 a, .int .u16 b] w (EffRet w bm vd (effF s 22 n a b)) := by
  obtain ⟨i0, hi, hz0, hz1, hz2⟩ := info_parts info5
  obtain ⟨A, c, e1, e2, e3, e4, e5⟩ := h.input
  have k1 : w.cell? ⟨bm, 36, none⟩ = some (.slice A s.input.length c) := by rw [h.cell, e1]
  have k2 := h.frozen 36
  cases hin : s.input with
  | nil =>
    have he : effF s 22 n a b = ([65535], s) := by simp [effF, hin]
    rw [he]
    rw [hin] at k1
    simp only [List.length_nil] at k1
    clear he hin e1 e2 e5
    go_enter Tryd.func30, Tryd.ntmps30
    go_wp2
    go_ret
    exact ⟨_, 1, cs, vr, vo, rfl, slc_new w [.int .u16 65535] 25, h.alloc _, below_new h _⟩
  | cons x r =>
    have he : effF s 22 n a b = ([x], { s with input := r }) := by simp [effF, hin]
    rw [he]
    rw [hin] at k1 e2 e5 hb8
    have hs : Sl w .u8 A (x :: r) := e5.sl
    obtain ⟨bb, oo, rfl, hcell⟩ := hs.at_ (i := 0) (by simp)
    simp only [Nat.add_zero, List.getElem?_cons_zero, Option.getD_some] at hcell
    have hx := hb8 x (by simp)
    have hw := wrap_u16_in hx.1 (by omega)
    have ks : ∀ W : World, (Instr.slice 22 (.slice (some ⟨bb, oo, none⟩) (x :: r).length c) (some (.int .i64 1)) none none).run Tryd.prog W = .ok (.slice (if c = 1 then some ⟨bb, oo, none⟩ else (some (⟨bb, oo, none⟩ : Addr)).map (·.add 1)) ((x :: r).length - 1) (c - 1)) W := fun W =>
      run_slice_from1 W 22 5 i0 Tryd.underlying22 hi hz1 (some ⟨bb, oo, none⟩) (x :: r).length c .i64 (by simp)
    obtain ⟨A', hA'⟩ : ∃ A', (if c = 1 then some ⟨bb, oo, none⟩ else (some (⟨bb, oo, none⟩ : Addr)).map (·.add 1)) = A' := ⟨_, rfl⟩
    rw [hA'] at ks
    have hlen : (x :: r).length = r.length + 1 := rfl
    simp only [List.length_cons, Nat.add_sub_cancel] at ks k1 e2
    have hrow : SlFAt w .u8 (some (.slice A' r.length (c - 1))) r (Bad bm vd vr vo) := by
      refine ⟨A', c - 1, rfl, by omega, by omega, ?_, ?_⟩
      · intro hn; rw [← hA'] at hn; split at hn <;> simp at hn
      · intro i u hu
        have := e5 (i + 1) u (by simpa using hu)
        obtain ⟨ad, h1, h2, h3⟩ := this
        cases h1
        have hc1 : c ≠ 1 := by
          have : i < r.length := by
            rcases Nat.lt_or_ge i r.length with hl | hl
            · exact hl
            · simp [List.getElem?_eq_none (show (r.map (Value.int .u8)).length ≤ i by simpa using hl)] at hu
          omega
        rw [if_neg hc1] at hA'
        refine ⟨_, hA'.symm, ?_, ?_⟩
        · rw [add_add, Nat.add_comm 1 i]; exact h2
        · rw [block_add]; exact h3
    have hfin := (h.newIn hrow).alloc (.cells #[.int .u16 x] 25)
    have HFIN := Lib.hid hfin
    have hlt := h.lt
    have hsl := slc_new (w.setCell ⟨bm, 36, none⟩ (.slice A' r.length (c - 1))) [.int .u16 x] 25
    rw [show (w.setCell ⟨bm, 36, none⟩ (.slice A' r.length (c - 1))).heap.size = w.heap.size from by simp [World.setCell]] at hsl
    have HSL := Lib.hid hsl
    clear hfin hrow he hs e5 h hA' hin hlen e1 e2 e3 e4 hsl
    go_enter Tryd.func30, Tryd.ntmps30
    go_wp2
    go_ret
    exact ⟨_, 1, _, vr, vo, rfl, HSL.out, HFIN.out, (below_set _ _ _ _).alloc (by simp; omega) _⟩
theorem eff23 (h : MachIs w bm s cs vd vr vo) (n a b : Int) (_hb : 0 ≤ b ∧ b < 65536) (hol : s.output.length ≤ 1000) : Calls Tryd.prog 30 #[.pointer (some ⟨bm, 0, none⟩), .int .i64 23, .int .i64 n, .int .u16 a, .int .u16 b] w (EffRet w bm vd (effF s 23 n a b)) := by
  obtain ⟨i0, hi, hz0, hz1, hz2⟩ := info_parts info5
  have k1 : w.cell? ⟨bm, 37, none⟩ = some vo := by rw [h.cell, h.output]
  have hw : IntKind.u8.wrap b = b % 256 := IntKind.wrap_u8 b
  have he : effF s 23 n a b = ([], { s with output := s.output ++ [b % 256] }) := by simp [effF]
  rw [he]
  obtain ⟨y, hy⟩ : ∃ y, b % 256 = y := ⟨_, rfl⟩
  rw [hy] at hw ⊢
  have hown := h.outputo
  have HOWN := Lib.hid hown
  have hlt := h.lt
  have HH := Lib.hid h
  clear he hy hown h
  go_enter Tryd.func30, Tryd.ntmps30
  go_wp2_with (at_builtin; refine wpList_append_sl rfl _ _ 22 rfl bm 5 i0 (.int .u8 0) 1 1 Tryd.underlying22 hi hz0 hz1 hz2 rfl (by decide) vo s.output.length (s.output.map (Value.int .u8)) rfl (HOWN.out.alloc _) (some ⟨w.heap.size, 0, none⟩) 1 1 [.int .u8 y] rfl (slc_new w [.int .u8 y] 5) rfl (by simp [Value.oneCell']) ?_ ?_ ?_ ?_)
  case _ => unfold maxLen; omega
  case _ => omega
  case _ => simp; omega
  intro v' w1 ho hg hat
  obtain ⟨A', c', rfl, _, _, _, _⟩ := own_sl ho
  have hrow : RowTo (w.alloc (.cells #[.int .u8 y] 5)) w1 bm 5 vo (.slice A' (s.output.length + 1) c') (s.output ++ [y]).length ((s.output ++ [y]).map (Value.int .u8)) := by
    refine ⟨by simpa using ho, hg, ?_⟩
    rcases hat with h1 | h1
    · exact .inl h1
    · exact .inr ⟨_, h1, by simp⟩
  have hm := (HH.out.alloc (.cells #[.int .u8 y] 5))
  have hfin := hm.newOut hrow
  have hblk := hrow.block hm.lt (own_ne hm.outputo hm.blk (by decide))
  have kk : w1.cell? ⟨bm, 37, none⟩ = some vo := by rw [World.cell?_of_block (w := w.alloc (.cells #[.int .u8 y] 5)) hblk, hm.cell, hm.output]
  have kf : w1.frozen? ⟨bm, 37, none⟩ = false := by rw [World.frozen?_of_block (w := w.alloc (.cells #[.int .u8 y] 5)) hblk, hm.frozen]
  have hbel : Below bm w w1 := ((Below.refl bm w).alloc (Nat.le_of_lt hlt) _).grown hg (by simp; omega) (fun k hk => (own_lt HOWN.out hk).1)
  have HFIN := Lib.hid hfin
  have HB := Lib.hid hbel
  clear hfin hm hrow hat hg ho hblk hbel
  go_wp2
  go_ret
  exact ⟨none, 0, _, vr, _, rfl, SlC.nil _ _, HFIN.out, HB.out.trans (below_set _ _ _ _)⟩
theorem far_blk (h : MachIs w bm s cs vd vr vo) {o : Obj} {w1 : World} (hg : ((w.alloc o).drew).grownBy w1 vr.ownBlock) : w1.heap[bm]? = w.heap[bm]? := by
  rw [hg.block bm (by have := h.lt; simp; omega) (Ne.symm (own_ne h.reto h.blk (by decide)))]
  exact Below.heap_alloc w o bm h.lt
theorem far_cell (h : MachIs w bm s cs vd vr vo) {o : Obj} {w1 : World} (hg : ((w.alloc o).drew).grownBy w1 vr.ownBlock) : w1.cell? ⟨bm, 3, none⟩ = some vr := by
  rw [World.cell?_of_block (w := w) (far_blk h hg), h.cell, h.ret]
theorem far_at (h : MachIs w bm s cs vd vr vo) {o : Obj} {w1 : World} (hg : ((w.alloc o).drew).grownBy w1 vr.ownBlock) : w1.cell? ⟨bm, 1, none⟩ = some (.int .i64 s.at_) := by
  rw [World.cell?_of_block (w := w) (far_blk h hg), h.cell, h.at_]
theorem far_frozen (h : MachIs w bm s cs vd vr vo) {o : Obj} {w1 : World} (hg : ((w.alloc o).drew).grownBy w1 vr.ownBlock) : w1.frozen? ⟨bm, 3, none⟩ = false := by
  rw [World.frozen?_of_block (w := w) (far_blk h hg), h.frozen]
theorem far_frozen1 (h : MachIs w bm s cs vd vr vo) {o : Obj} {w1 : World} (hg : ((w.alloc o).drew).grownBy w1 vr.ownBlock) : w1.frozen? ⟨bm, 1, none⟩ = false := by
  rw [World.frozen?_of_block (w := w) (far_blk h hg), h.frozen]
theorem eff18_fin (h : MachIs w bm s cs vd vr vo) {o : Obj} {w1 : World} (hg : ((w.alloc o).drew).grownBy w1 vr.ownBlock) {A' : Option Addr} {c' : Nat} {y : Int}
    (ho : w1.ownsRow bm 3 1 (.slice A' (s.ret.length + 1) c') (s.ret.length + 1) (s.ret.map (Value.int .i64) ++ [.int .i64 y]))
    (hat : (Value.slice A' (s.ret.length + 1) c').ownBlock = vr.ownBlock ∨ (Value.slice A' (s.ret.length + 1) c').ownBlock = some (w.alloc o).drew.heap.size) (n : Int) :
    MachIs ((w1.setCell ⟨bm, 3, none⟩ (.slice A' (s.ret.length + 1) c')).setCell ⟨bm, 1, none⟩ (.int .i64 n)) bm { s with ret := s.ret ++ [y], at_ := n } ((cs.setIfInBounds 3 (.slice A' (s.ret.length + 1) c')).setIfInBounds 1 (.int .i64 n)) vd (.slice A' (s.ret.length + 1) c') vo ∧
      Below bm w ((w1.setCell ⟨bm, 3, none⟩ (.slice A' (s.ret.length + 1) c')).setCell ⟨bm, 1, none⟩ (.int .i64 n)) := by
  have hm := (h.alloc o).ext ((Ext.refl _).drew)
  have hrow : RowTo (w.alloc o).drew w1 bm 3 vr (.slice A' (s.ret.length + 1) c') (s.ret ++ [y]).length ((s.ret ++ [y]).map (Value.int .i64)) := by
    refine ⟨by simpa using ho, hg, ?_⟩
    rcases hat with h1 | h1
    · exact .inl h1
    · exact .inr ⟨_, h1, Nat.le_refl _⟩
  refine ⟨setAt (hm.newRet hrow) n, ?_⟩
  have hbel : Below bm w w1 := (((Below.refl bm w).alloc (Nat.le_of_lt h.lt) _).drew).grown hg (by have := h.lt; simp; omega) (fun k hk => (own_lt h.reto hk).1)
  exact (hbel.trans (below_set _ _ _ _)).trans (below_set _ _ _ _)
theorem eff18 (h : MachIs w bm s cs vd vr vo) (n a b : Int) (hrl : s.ret.length ≤ 8) : Calls Tryd.prog 30 #[.pointer (some ⟨bm, 0, none⟩), .int .i64 18, .int .i64 n, .int .u16 a, .int .u16 b] w (EffRet w bm vd (effF s 18 n a b)) := by
  obtain ⟨i0, hi, hz0, hz1, hz2⟩ := info_parts info3
  have k1 : w.cell? ⟨bm, 1, none⟩ = some (.int .i64 s.at_) := by rw [h.cell, h.at_]
  have k2 := h.frozen 1
  have k3 : w.cell? ⟨bm, 3, none⟩ = some vr := by rw [h.cell, h.ret]
  have he : effF s 18 n a b = ([], { s with ret := s.ret ++ [s.at_], at_ := n }) := by simp [effF]
  rw [he]
  obtain ⟨y, hy⟩ : ∃ y, s.at_ = y := ⟨_, rfl⟩
  rw [hy] at k1 ⊢
  have hown := h.reto
  have HOWN := Lib.hid hown
  have hlt := h.lt
  have HH := Lib.hid h
  have ag : vr.ownBlock ≠ some bm := own_ne h.reto h.blk (by decide)
  clear he hy hown h
  go_enter Tryd.func30, Tryd.ntmps30
  go_wp2
  go_region_law ((refine step_append_sl rfl _ _ 24 rfl bm 3 i0 (.int .i64 0) 1 8 Tryd.underlying24 hi hz0 hz1 hz2 rfl (by decide) vr s.ret.length (s.ret.map (Value.int .i64)) (by rfl) ((HOWN.out.alloc _).drew) (some ⟨w.heap.size, 0, none⟩) 1 1 [.int .i64 y] (by rfl) (slc_new w [.int .i64 y] 3) (by rfl) (by simp [Value.oneCell']) (by unfold maxLen; omega) (by omega) (by simp; omega) ?_; intro v' w1 ho hg hat; obtain ⟨A', c', rfl, _, _, _, _⟩ := own_sl ho; have kk : w1.cell? ⟨bm, 3, none⟩ = some vr := far_cell HH.out hg; have kf : w1.frozen? ⟨bm, 3, none⟩ = false := far_frozen HH.out hg; have ka : w1.cell? ⟨bm, 1, none⟩ = some (.int .i64 s.at_) := far_at HH.out hg; have kaf : w1.frozen? ⟨bm, 1, none⟩ = false := far_frozen1 HH.out hg))
  all_goals (
    have HF := Lib.hid (eff18_fin HH.out hg ho hat n)
    clear hat hg ho
    go_wp2
    go_ret
    exact ⟨none, 0, _, _, vo, rfl, SlC.nil _ _, HF.out.1, HF.out.2⟩)
end
end Go.Proofs.YtpooedfchjpndaaDoor
