import Derived.Test.YtpooedfchjpndaaDoorComp
import Derived.Test.YtpooedfchjpndaaDoorMachR
namespace Go.Proofs.YtpooedfchjpndaaDoor
open Go Go.Proofs Go.RowKit
set_option maxHeartbeats 800000
set_option maxRecDepth 100000
def EffRet (w : World) (bm : Nat) (vd : Value) (r : List Int × St) (e : Ending) (w' : World) : Prop :=
  ∃ A c cs' vr' vo', e = .returned (.slice A r.1.length c) ∧ SlC w' A (r.1.map (Value.int .u16)) ∧ MachIs w' bm r.2 cs' vd vr' vo' ∧ Below bm w w'
section
variable {w : World} {bm : Nat} {s : St} {cs : Array Value} {vd vr vo : Value}
theorem slc_new (w : World) (xs : List Value) (t : TypeId) : SlC (w.alloc (.cells xs.toArray t)) (some ⟨w.heap.size, 0, none⟩) xs := by
  intro i u hu
  refine ⟨_, rfl, ?_⟩
  have hadd : (⟨w.heap.size, 0, none⟩ : Addr).add i = ⟨w.heap.size, i, none⟩ := by unfold Addr.add; split <;> simp_all
  rw [hadd, cell_of_row _ _ i xs.toArray t (0, 0) (heap_alloc_new w _)]
  simpa using hu
theorem below_new (h : MachIs w bm s cs vd vr vo) (o : Obj) : Below bm w (w.alloc o) := (Below.refl _ _).alloc (Nat.le_of_lt h.lt) o
theorem below_set (w : World) (bm i : Nat) (u : Value) : Below bm w (w.setCell ⟨bm, i, none⟩ u) := (Below.refl bm w).setCell (p := ⟨bm, i, none⟩) (Nat.le_refl _) u
theorem eff0 (h : MachIs w bm s cs vd vr vo) (n a b : Int) : Calls Tryd.prog 30 #[.pointer (some ⟨bm, 0, none⟩), .int .i64 0, .int .i64 n, .int .u16 a, .int .u16 b] w (EffRet w bm vd (effF s 0 n a b)) := by
  have k1 : w.cell? ⟨bm, 38, none⟩ = some (.int .i64 s.stop) := by rw [h.cell, h.stop]
  have k2 := h.frozen 38
  go_enter Tryd.func30, Tryd.ntmps30
  go_wp2
  go_ret
  exact ⟨none, 0, _, vr, vo, rfl, SlC.nil _ _, h.set 38 _ (by decide) { s with stop := 1 } (by simp) (by simp) (by simp) (by simp) (fun k hk => by rw [if_neg (by omega)]) h.memlen (by simp) (by simp) rfl, below_set _ _ _ _⟩
theorem eff1 (h : MachIs w bm s cs vd vr vo) (n a b : Int) (hn : 0 ≤ n ∧ n < 65536) : Calls Tryd.prog 30 #[.pointer (some ⟨bm, 0, none⟩), .int .i64 1, .int .i64 n, .int .u16 a, .int .u16 b] w (EffRet w bm vd (effF s 1 n a b)) := by
  have hw := wrap_u16_in hn.1 hn.2
  go_enter Tryd.func30, Tryd.ntmps30
  go_wp2
  go_ret
  exact ⟨_, 1, cs, vr, vo, rfl, slc_new w [.int .u16 n] 25, h.alloc _, below_new h _⟩
theorem eff2 (h : MachIs w bm s cs vd vr vo) (n a b : Int) : Calls Tryd.prog 30 #[.pointer (some ⟨bm, 0, none⟩), .int .i64 2, .int .i64 n, .int .u16 a, .int .u16 b] w (EffRet w bm vd (effF s 2 n a b)) := by
  go_enter Tryd.func30, Tryd.ntmps30
  go_wp2
  go_ret
  exact ⟨_, 2, cs, vr, vo, rfl, slc_new w [.int .u16 b, .int .u16 b] 25, h.alloc _, below_new h _⟩
theorem eff3 (h : MachIs w bm s cs vd vr vo) (n a b : Int) : Calls Tryd.prog 30 #[.pointer (some ⟨bm, 0, none⟩), .int .i64 3, .int .i64 n, .int .u16 a, .int .u16 b] w (EffRet w bm vd (effF s 3 n a b)) := by
  go_enter Tryd.func30, Tryd.ntmps30
  go_wp2
  go_ret
  exact ⟨none, 0, cs, vr, vo, rfl, SlC.nil _ _, h, Below.refl _ _⟩
theorem eff4 (h : MachIs w bm s cs vd vr vo) (n a b : Int) : Calls Tryd.prog 30 #[.pointer (some ⟨bm, 0, none⟩), .int .i64 4, .int .i64 n, .int .u16 a, .int .u16 b] w (EffRet w bm vd (effF s 4 n a b)) := by
  go_enter Tryd.func30, Tryd.ntmps30
  go_wp2
  go_ret
  exact ⟨_, 2, cs, vr, vo, rfl, slc_new w [.int .u16 b, .int .u16 a] 25, h.alloc _, below_new h _⟩
theorem eff5 (h : MachIs w bm s cs vd vr vo) (n a b : Int) : Calls Tryd.prog 30 #[.pointer (some ⟨bm, 0, none⟩), .int .i64 5, .int .i64 n, .int .u16 a, .int .u16 b] w (EffRet w bm vd (effF s 5 n a b)) := by
  go_enter Tryd.func30, Tryd.ntmps30
  go_wp2
  go_ret
  exact ⟨_, 3, cs, vr, vo, rfl, slc_new w [.int .u16 a, .int .u16 b, .int .u16 a] 25, h.alloc _, below_new h _⟩
theorem setAt (h : MachIs w bm s cs vd vr vo) (n : Int) : MachIs (w.setCell ⟨bm, 1, none⟩ (.int .i64 n)) bm { s with at_ := n } (cs.setIfInBounds 1 (.int .i64 n)) vd vr vo :=
  h.set 1 _ (by decide) { s with at_ := n } (by simp) (by simp) (by simp) (by simp) (fun k hk => by rw [if_neg (by omega)]) h.memlen (by simp) (by simp) (by simp)
theorem eff16 (h : MachIs w bm s cs vd vr vo) (n a b : Int) : Calls Tryd.prog 30 #[.pointer (some ⟨bm, 0, none⟩), .int .i64 16, .int .i64 n, .int .u16 a, .int .u16 b] w (EffRet w bm vd (effF s 16 n a b)) := by
  have k1 : w.cell? ⟨bm, 1, none⟩ = some (.int .i64 s.at_) := by rw [h.cell, h.at_]
  have k2 := h.frozen 1
  go_enter Tryd.func30, Tryd.ntmps30
  go_wp2
  go_ret
  exact ⟨none, 0, _, vr, vo, rfl, SlC.nil _ _, setAt h n, below_set _ _ _ _⟩
theorem eff17 (h : MachIs w bm s cs vd vr vo) (n a b : Int) : Calls Tryd.prog 30 #[.pointer (some ⟨bm, 0, none⟩), .int .i64 17, .int .i64 n, .int .u16 a, .int .u16 b] w (EffRet w bm vd (effF s 17 n a b)) := by
  have k1 : w.cell? ⟨bm, 1, none⟩ = some (.int .i64 s.at_) := by rw [h.cell, h.at_]
  have k2 := h.frozen 1
  by_cases hb : b = 0
  · have he : effF s 17 n a b = ([], { s with at_ := n }) := by simp [effF, hb]
    rw [he]
    have d : (b == 0) = true := by simpa using hb
    clear hb he
    go_enter Tryd.func30, Tryd.ntmps30
    go_wp2
    go_ret
    exact ⟨none, 0, _, vr, vo, rfl, SlC.nil _ _, setAt h n, below_set _ _ _ _⟩
  · have he : effF s 17 n a b = ([], s) := by simp [effF, hb]
    rw [he]
    have d : (b == 0) = false := by simpa using hb
    clear hb he
    go_enter Tryd.func30, Tryd.ntmps30
    go_wp2
    go_ret
    exact ⟨none, 0, cs, vr, vo, rfl, SlC.nil _ _, h, Below.refl _ _⟩
theorem eff20 (h : MachIs w bm s cs vd vr vo) (n a b : Int) (hb : 0 ≤ b ∧ b < 32) : Calls Tryd.prog 30 #[.pointer (some ⟨bm, 0, none⟩), .int .i64 20, .int .i64 n, .int .u16 a, .int .u16 b] w (EffRet w bm vd (effF s 20 n a b)) := by
  obtain ⟨b1, b2⟩ := hb
  have k1 : w.cell? ⟨bm, 4 + b.toNat, none⟩ = some (.int .u16 (s.mem[b.toNat]?.getD 0)) := by rw [h.cell, h.mem _ (by omega)]
  obtain ⟨x, hx⟩ : ∃ x, s.mem[b.toNat]?.getD 0 = x := ⟨_, rfl⟩
  have he : effF s 20 n a b = ([x], s) := by simp [effF, hx]
  rw [hx] at k1
  rw [he]
  clear he hx
  go_enter Tryd.func30, Tryd.ntmps30
  go_wp2
  go_ret
  exact ⟨_, 1, cs, vr, vo, rfl, slc_new w [.int .u16 x] 25, h.alloc _, below_new h _⟩
theorem eff21 (h : MachIs w bm s cs vd vr vo) (n a b : Int) (hb : 0 ≤ b ∧ b < 32) : Calls Tryd.prog 30 #[.pointer (some ⟨bm, 0, none⟩), .int .i64 21, .int .i64 n, .int .u16 a, .int .u16 b] w (EffRet w bm vd (effF s 21 n a b)) := by
  obtain ⟨b1, b2⟩ := hb
  have k1 : w.cell? ⟨bm, 4 + b.toNat, none⟩ = some (.int .u16 (s.mem[b.toNat]?.getD 0)) := by rw [h.cell, h.mem _ (by omega)]
  have k2 := h.frozen (4 + b.toNat)
  have hml := h.memlen
  have HML := Lib.hid hml
  clear hml
  go_enter Tryd.func30, Tryd.ntmps30
  go_wp2
  go_ret
  refine ⟨none, 0, _, vr, vo, rfl, SlC.nil _ _, h.set (4 + b.toNat) (.int .u16 a) (by omega) { s with mem := s.mem.set b.toNat a } ⟨by omega, rfl⟩ (by rw [if_neg (by omega)]) (by simp; omega) (by simp; omega) (fun k hk => ?_) (by simpa using HML.out) (by simp; omega) (by simp; omega) (by rw [if_neg (by omega)]), below_set _ _ _ _⟩
  have := HML.out
  show _ = some (Value.int .u16 ((s.mem.set b.toNat a)[k]?.getD 0))
  rw [List.getElem?_set]
  by_cases e : b.toNat = k
  · rw [if_pos (by omega), if_pos e, if_pos (by omega)]; rfl
  · rw [if_neg (by omega), if_neg e]
theorem effC (h : MachIs w bm s cs vd vr vo) (op n a b : Int) (ho : 6 ≤ op ∧ op ≤ 15) (ha : 0 ≤ a ∧ a < 65536) (hb : 0 ≤ b ∧ b < 65536) (hz : op = 9 ∨ op = 10 → b ≠ 0) : Calls Tryd.prog 30 #[.pointer (some ⟨bm, 0, none⟩), .int .i64 op, .int .i64 n, .int .u16 a, .int .u16 b] w (EffRet w bm vd (effF s op n a b)) := by
  have hc := compute_c op a b w ho ha hb hz
  have HC := Lib.hid hc
  have he : effF s op n a b = ([compF op a b], s) := by
    unfold effF
    rw [if_neg (by omega), if_neg (by omega), if_neg (by omega), if_neg (by omega), if_neg (by omega), if_neg (by omega), if_neg (by omega), if_neg (by omega), if_neg (by omega), if_neg (by omega), if_neg (by omega), if_neg (by omega), if_neg (by omega), if_neg (by omega)]
  rw [he]
  obtain ⟨x, hx⟩ : ∃ x, compF op a b = x := ⟨_, rfl⟩
  rw [hx] at HC ⊢
  obtain ⟨o1, o2⟩ := ho
  clear hc he hx hz ha hb
  go_enter Tryd.func30, Tryd.ntmps30
  go_wp2_with (go_at_call 33; refine HC.out.mono ?_; rintro e w' ⟨rfl, rfl⟩)
  go_ret
  exact ⟨_, 1, cs, vr, vo, rfl, slc_new w [.int .u16 x] 25, h.alloc _, below_new h _⟩
end
end Go.Proofs.YtpooedfchjpndaaDoor
