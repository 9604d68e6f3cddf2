import Derived.Test.YtbaahbpianingaaGreatDoorMg13
import Derived.Test.YtbaahbpianingaaGreatDoorMg2
namespace Go.Proofs.YtbaahbpianingaaGreatDoor
open Go Go.Proofs Go.RowKit
open Tape (Rule Ts)
set_option maxHeartbeats 6400000
set_option maxRecDepth 100000
theorem faultT_code {s : Ts} (h : faultT s ≠ (0, 0)) : (faultT s).1 ≠ 0 := by
  unfold faultT at h ⊢
  split
  · rename_i h1; exact faultR_code h1
  · rename_i h1
    rw [if_neg h1] at h
    split
    · decide
    · rename_i h2
      rw [if_neg h2] at h
      split
      · decide
      · rename_i h3
        rw [if_neg h3] at h
        exact absurd rfl h
def mirrorG (s : Ts) : Ts × (Int × Int) := if faultT s = (0, 0) then (Tape.mirror s, (0, 0)) else (ts0, faultT s)
theorem mir_fin {w W : World} {cs : Array Value} {c i : Int} (h : BegunT w W cs) : SRetT w (ts0, (c, i)) (.returned (.tuple #[.agg zeroTs, .agg #[.int .i64 c, .int .i64 i]])) ((W.setRow (w.heap.size + 1) zeroTs).setRow (w.heap.size + 2) #[.int .i64 c, .int .i64 i]) :=
  ⟨zeroTs, rfl, fun F _ => zeroT_is F, (h.x.setRow (by omega) _).setRow (by omega) _⟩
theorem mirror_bad (cs : Array Value) (s : Ts) (w : World) (h : TsIs w cs s) (hf : faultT s ≠ (0, 0)) : Calls Tryz.prog 7 #[.agg cs] w (SRetT w (mirrorG s)) := by
  have he : mirrorG s = (ts0, faultT s) := by unfold mirrorG; rw [if_neg hf]
  rw [he]
  have HV := Lib.hid (fun (W : World) (hx : Ext w W) => Valid_t cs s W (h.ext hx))
  obtain ⟨p, hp⟩ : ∃ p, faultT s = p := ⟨_, rfl⟩
  obtain ⟨c, i⟩ := p
  have q1 : (c == 0) = false := by have := faultT_code hf; rw [hp] at this; simpa using this
  have q2 : ¬ c = 0 := by simpa using q1
  rw [hp] at HV ⊢
  have HS := Lib.hid h.size
  clear hp he hf h
  go_enter Tryz.func7, Tryz.ntmps7
  go_upto_region 0 with (fail)
  go_cut [1, 2, 3] (fun s1 s2 s3 wx => s1 = .pointer (some ⟨w.heap.size, 0, none⟩) ∧ s2 = .pointer (some ⟨w.heap.size + 1, 0, none⟩) ∧ s3 = .pointer (some ⟨w.heap.size + 2, 0, none⟩) ∧ BegunT w wx cs)
  case first =>
    go_wp2_with (refine wpList_allocQ rfl rfl ?_)
    go_meet
    exact ⟨rfl, rfl, rfl, begunT_mk w cs⟩
  case rest =>
    obtain ⟨rfl, rfl, rfl, hbg⟩ := hcut
    have HG0 := Lib.hid hbg.g0
    have HBG := Lib.hid hbg
    clear hbg
    go_wp2_with (refine wpList_load_row rfl 25 _ rfl w.heap.size rfl 25 cs (0, 0) _ HG0.out Tryz.underlying25 rfl (by rw [HS.out]; exact sizeQ) ?_)
    refine (HV.out wc HBG.out.x).mono ?_
    rintro e w1 ⟨rfl, hx1⟩
    have HT1 := Lib.hid (HBG.out.ext hx1)
    have hlt1 := HT1.out.lt
    clear hx1
    simp only [fAgg]
    go_upto_region 3 with (fail)
    have HT2 := Lib.hid ((HT1.out.ext ((Ext.refl w1).alloc (.cells #[.int .i64 c, .int .i64 i] 27))).ext ((Ext.refl _).drew))
    have HF0 := Lib.hid (heap_alloc_new w1 (.cells #[.int .i64 c, .int .i64 i] 27))
    refine wp_region_any (by kernel_rfl) ?_
    refine wpAny_take (i := 0) (v := .agg zeroTs) rfl (by kernel_rfl) (by kernel_rfl) (by kernel_rfl) (fun _ _ _ h => h) (Or.inl ⟨by rfl, fun w => ?_⟩) ?_
    · kernel_rfl
    refine wpAny_ready (rs := [1, 2]) (by kernel_rfl) (by simp) ?_
    refine (AllReady.cons rfl (fun K hK => ?_) (AllReady.cons rfl (fun K hK => ?_) AllReady.nil))
    · refine step_load_row rfl 27 _ rfl w1.heap.size (by first | (simp [Act.eval]; done) | simp [Act.eval, Act.put]) 27 #[.int .i64 c, .int .i64 i] (0, 0) _ (by first | exact HF0.out | exact (setRow_other _ _ _ _ (by omega)).trans HF0.out) Tryz.underlying27 rfl sizeF ?_
      refine hK _ _ ?_
      clear hK K
      refine wpAny_ready (rs := [2]) (by kernel_rfl) (by simp) ?_
      refine (AllReady.cons rfl (fun K hK => ?_) AllReady.nil)
      · refine step_store_row rfl 25 _ _ rfl (w.heap.size + 1) zeroTs (by first | (simp [Act.eval]; done) | simp [Act.eval, Act.put]) (by first | (simp [Act.eval]; done) | simp [Act.eval, Act.put]) 25 zeroTs HT2.out.g1 sizeQ rfl zeroT_one ?_
        refine hK _ _ ?_
        clear hK K
        refine wpAny_ready (rs := [3]) (by kernel_rfl) (by simp) ?_
        refine (AllReady.cons rfl (fun K hK => ?_) AllReady.nil)
        · refine step_store_row rfl 27 _ _ rfl (w.heap.size + 2) #[.int .i64 c, .int .i64 i] (by first | (simp [Act.eval]; done) | simp [Act.eval, Act.put]) (by first | (simp [Act.eval]; done) | simp [Act.eval, Act.put]) 27 _ ((setRow_other _ _ _ _ (by omega)).trans HT2.out.g2) sizeF rfl (by kernel_rfl) ?_
          refine hK _ _ ?_
          clear hK K
          refine wpAny_done (by kernel_rfl) ?_ _
          go_wp2_with fail
          refine bodyPost_ret (results_two rfl _ _ (w.heap.size + 1) (w.heap.size + 2) 25 27 zeroTs #[.int .i64 c, .int .i64 i] (0, 0) (0, 0) _ _ rfl ?_ Tryz.underlying25 rfl sizeQ rfl ?_ Tryz.underlying27 rfl sizeF) rfl (mir_fin HT2.out)
          · rw [setRow_other _ _ _ _ (by omega)]; exact setRow_heap _ _ _ _ _ _ HT2.out.g1
          · exact setRow_heap _ _ _ _ _ _ ((setRow_other _ _ _ _ (by omega)).trans HT2.out.g2)
    · refine step_store_row rfl 25 _ _ rfl (w.heap.size + 1) zeroTs (by first | (simp [Act.eval]; done) | simp [Act.eval, Act.put]) (by first | (simp [Act.eval]; done) | simp [Act.eval, Act.put]) 25 zeroTs HT2.out.g1 sizeQ rfl zeroT_one ?_
      refine hK _ _ ?_
      clear hK K
      refine wpAny_ready (rs := [1]) (by kernel_rfl) (by simp) ?_
      refine (AllReady.cons rfl (fun K hK => ?_) AllReady.nil)
      · refine step_load_row rfl 27 _ rfl w1.heap.size (by first | (simp [Act.eval]; done) | simp [Act.eval, Act.put]) 27 #[.int .i64 c, .int .i64 i] (0, 0) _ (by first | exact HF0.out | exact (setRow_other _ _ _ _ (by omega)).trans HF0.out) Tryz.underlying27 rfl sizeF ?_
        refine hK _ _ ?_
        clear hK K
        refine wpAny_ready (rs := [3]) (by kernel_rfl) (by simp) ?_
        refine (AllReady.cons rfl (fun K hK => ?_) AllReady.nil)
        · refine step_store_row rfl 27 _ _ rfl (w.heap.size + 2) #[.int .i64 c, .int .i64 i] (by first | (simp [Act.eval]; done) | simp [Act.eval, Act.put]) (by first | (simp [Act.eval]; done) | simp [Act.eval, Act.put]) 27 _ ((setRow_other _ _ _ _ (by omega)).trans HT2.out.g2) sizeF rfl (by kernel_rfl) ?_
          refine hK _ _ ?_
          clear hK K
          refine wpAny_done (by kernel_rfl) ?_ _
          go_wp2_with fail
          refine bodyPost_ret (results_two rfl _ _ (w.heap.size + 1) (w.heap.size + 2) 25 27 zeroTs #[.int .i64 c, .int .i64 i] (0, 0) (0, 0) _ _ rfl ?_ Tryz.underlying25 rfl sizeQ rfl ?_ Tryz.underlying27 rfl sizeF) rfl (mir_fin HT2.out)
          · rw [setRow_other _ _ _ _ (by omega)]; exact setRow_heap _ _ _ _ _ _ HT2.out.g1
          · exact setRow_heap _ _ _ _ _ _ ((setRow_other _ _ _ _ (by omega)).trans HT2.out.g2)
/-- The move of the first k rules is turned. -/
def turnTo (L : List Rule) (k : Nat) : List Rule := (L.take k).map Tape.turn ++ L.drop k
theorem turnTo_get {L : List Rule} {k : Nat} {r : Rule} (h : L[k]? = some r) : (turnTo L k)[k]? = some r := by
  have hk := (List.getElem?_eq_some_iff.1 h).1
  have hl : ((L.take k).map Tape.turn).length = k := by simp; omega
  unfold turnTo
  rw [List.getElem?_append_right (by omega), hl, Nat.sub_self, List.getElem?_drop]
  exact h
theorem turnTo_set {L : List Rule} {k : Nat} {r : Rule} (h : L[k]? = some r) : (turnTo L k).set k { r with mv := -r.mv } = turnTo L (k + 1) := by
  obtain ⟨hk, he⟩ := List.getElem?_eq_some_iff.1 h
  have hl : ((L.take k).map Tape.turn).length = k := by simp; omega
  unfold turnTo
  rw [List.set_append_right _ _ (by omega), hl, Nat.sub_self, List.drop_eq_getElem_cons hk, he, List.set_cons_zero, List.take_succ_eq_append_getElem hk, he, List.map_append, List.append_assoc]
  rfl
theorem turnTo_all (L : List Rule) : turnTo L L.length = L.map Tape.turn := by
  unfold turnTo
  rw [List.take_length, List.drop_length, List.append_nil]
theorem turn_fits {r : Rule} (h : RuleFits r) : RuleFits (Tape.turn r) := by
  obtain ⟨a1, a2, a3, a4, a5, a6, a7, a8, a9, a10⟩ := h
  exact ⟨a1, a2, a3, a4, a5, a6, by show -1 ≤ -r.mv; omega, by show -r.mv ≤ 1; omega, a9, a10⟩
theorem mirror_wf {s : Ts} (h : Tape.Ok s) : TsWf (Tape.mirror s) := by
  have k := okt_wf h
  have h1 := h.len
  have h2 := h.at_
  refine ⟨?_, fun x hx => k.cells x (by simpa [Tape.mirror] using hx), i64_small (by show -100000 ≤ (s.cells.length : Int) - 1 - s.at_; omega) (by show (s.cells.length : Int) - 1 - s.at_ ≤ 100000; omega), k.state, k.stop⟩
  intro r hr
  obtain ⟨q, hq, rfl⟩ := List.mem_map.1 (show r ∈ s.rules.map Tape.turn from hr)
  exact fits_wf (turn_fits (rule_fits (h.rules q hq)))
theorem mirG_fin {w wx : World} {cs cs' : Array Value} {bm : Nat} {s : Ts} {v0 v1 : Value} (hm : MrIs wx (w.heap.size + 3) bm s cs' v0 v1) (hb : BegunT w wx cs) (hw : TsWf s) :
    SRetT w (s, (0, 0)) (.returned (.tuple #[.agg cs', .agg #[.int .i64 0, .int .i64 0]])) ((wx.setRow (w.heap.size + 1) cs').setRow (w.heap.size + 2) #[.int .i64 0, .int .i64 0]) := by
  refine ⟨cs', rfl, fun F hF => hm.is hw fun g hg hl => ?_, (hb.x.setRow (by omega) _).setRow (by omega) _⟩
  rw [hF g (by omega) (by simpa using hl), setRow_other _ _ _ _ (by omega), setRow_other _ _ _ _ (by omega)]
/-- The state has been copied, and a part of it turned. -/
structure Turned (w wx : World) (cs : Array Value) (bm : Nat) (s : Ts) (cs' : Array Value) (v0 v1 : Value) : Prop where
  m : MrIs wx (w.heap.size + 3) bm s cs' v0 v1
  b : BegunT w wx cs
def midT (s : Ts) : Ts := { s with cells := s.cells.reverse, at_ := s.cells.length - 1 - s.at_ }
def turnK (s : Ts) (k : Nat) : Ts := { s with rules := turnTo s.rules k, cells := s.cells.reverse, at_ := s.cells.length - 1 - s.at_ }
theorem turnK_all (s : Ts) : turnK s s.rules.length = Tape.mirror s := by unfold turnK; rw [turnTo_all]; rfl
section
variable {w wx w2 : World} {cs cs' : Array Value} {bm : Nat} {s s' : Ts} {v0 v1 v0' v1' : Value}
theorem BegunT.low (h : BegunT w wx cs) (hk : ∀ g, g ≤ w.heap.size + 2 → w2.heap[g]? = wx.heap[g]?) (hx : Ext w w2) : BegunT w w2 cs :=
  ⟨(hk _ (by omega)).trans h.g0, (hk _ (by omega)).trans h.g1, (hk _ (by omega)).trans h.g2, hx⟩
theorem Turned.rev {g c : Nat} (h : Turned w wx cs bm s cs' v0 (.slice (some ⟨g, 0, none⟩) s.cells.length c)) (q : Nat) :
    Turned w ((wx.drewN q).setCells g 0 ((s.cells.map (Value.int .i64)).reverse)) cs bm { s with cells := s.cells.reverse } cs' v0 (.slice (some ⟨g, 0, none⟩) s.cells.length c) := by
  rw [← List.map_reverse]
  have hg := (own_lt h.m.own1 (g := g) rfl).1
  have hgr := grown_setCells (g := g) (s.cells.reverse.map (Value.int .i64)) 0 (wx.drewN q)
  have hlt := h.b.lt
  refine ⟨MrIs.putCells (h.m.ext ((Ext.refl wx).drewN q)) (by simp), h.b.low (fun k hk => hgr.block k (by show k < wx.heap.size; omega) (fun e => by injection e with e; omega)) ?_⟩
  exact ⟨hgr.os.trans h.b.x.os, hgr.tape.trans h.b.x.tape, hgr.output.trans h.b.x.output, Nat.le_trans h.b.x.size hgr.size, fun k hk => (hgr.block k (Nat.lt_of_lt_of_le hk h.b.x.size) (fun e => by injection e with e; omega)).trans (h.b.x.block k hk)⟩
theorem Turned.drewT (h : Turned w wx cs bm s cs' v0 v1) : Turned w wx.drew cs bm s cs' v0 v1 := ⟨h.m.ext (Ext.refl wx).drew, h.b.ext (Ext.refl wx).drew⟩
theorem Turned.at1 {g c : Nat} (h : Turned w wx cs bm { s with cells := s.cells.reverse } cs' v0 (.slice (some ⟨g, 0, none⟩) s.cells.length c)) :
    Turned w (wx.setCell ⟨bm, 2, none⟩ (.int .i64 (s.cells.length - 1 - s.at_))) cs bm (midT s) (cs'.setIfInBounds 2 (.int .i64 (s.cells.length - 1 - s.at_))) v0 (.slice (some ⟨g, 0, none⟩) s.cells.length c) := by
  have hle := h.m.le
  refine ⟨h.m.setAt _, h.b.low (fun k hk => Below.heap_setCell wx ⟨bm, 2, none⟩ _ k (by show k ≠ bm; omega)) (h.b.x.setCell (p := ⟨bm, 2, none⟩) (by show w.heap.size ≤ bm; omega) _)⟩
theorem Turned.mk0 (h : Turned w wx cs bm (midT s) cs' v0 v1) : Turned w wx cs bm (turnK s 0) cs' v0 v1 := by
  have : turnK s 0 = midT s := by unfold turnK midT turnTo; simp
  rw [this]; exact h
theorem Turned.mvCell {g c n k : Nat} {r : Rule} (h : Turned w wx cs bm (turnK s k) cs' (.slice (some ⟨g, 0, none⟩) n c) v1) (hr : s.rules[k]? = some r) (_e : n = n) : wx.cell? ⟨g, k * 5 + 3, none⟩ = some (.int .i64 r.mv) := by
  have q := h.m.own0.cells (g := g) rfl (k * 5 + 3) (.int .i64 r.mv) (by show (rulesV (turnTo s.rules k))[k * 5 + 3]? = _; rw [rulesV_get _ k 3 r (turnTo_get hr) (by omega)]; rfl)
  rw [add_off, Nat.zero_add] at q
  exact q
theorem own_len {w : World} {B : Nat} {e : TypeId} {sz n m c : Nat} {A : Option Addr} {xs : List Value} (h : w.ownsRow B e sz (.slice A n c) m xs) : n = m := by
  rcases h.2 with ⟨hv, hm⟩ | ⟨g, cap, cur, hv, _⟩
  · injection hv with _ h2 _; omega
  · injection hv
theorem Turned.mvFroz {g c n k : Nat} (h : Turned w wx cs bm (turnK s k) cs' (.slice (some ⟨g, 0, none⟩) n c) v1) : wx.frozen? ⟨g, k * 5 + 3, none⟩ = false := by
  have e := own_len h.m.own0
  subst e
  exact h.m.own0.frozenAt _
theorem Turned.mvLt {g c n k : Nat} (h : Turned w wx cs bm (turnK s k) cs' (.slice (some ⟨g, 0, none⟩) n c) v1) : g < wx.heap.size := (own_lt h.m.own0 (g := g) rfl).2
theorem Turned.gNe {g c n k : Nat} (h : Turned w wx cs bm (turnK s k) cs' (.slice (some ⟨g, 0, none⟩) n c) v1) : bm ≠ g := fun e => h.m.ne0 (by rw [e]; rfl)
theorem Turned.nextT {g c n k : Nat} {r : Rule} (h : Turned w wx cs bm (turnK s k) cs' (.slice (some ⟨g, 0, none⟩) n c) v1) (hr : s.rules[k]? = some r) :
    Turned w (wx.setCell ⟨g, k * 5 + 3, none⟩ (.int .i64 (-r.mv))) cs bm (turnK s (k + 1)) cs' (.slice (some ⟨g, 0, none⟩) n c) v1 := by
  have e := own_len h.m.own0
  subst e
  have hg := (own_lt h.m.own0 (g := g) rfl).1
  have hm := h.m.putRule (i := k) (r := r) (turnTo_get hr) (-r.mv)
  have es : { turnK s k with rules := (turnK s k).rules.set k { r with mv := -r.mv } } = turnK s (k + 1) := by
    unfold turnK
    simp only
    rw [turnTo_set hr]
  rw [es] at hm
  exact ⟨hm, h.b.low (fun j hj => Below.heap_setCell wx ⟨g, k * 5 + 3, none⟩ _ j (by show j ≠ g; omega)) (h.b.x.setCell (p := ⟨g, k * 5 + 3, none⟩) (by show w.heap.size ≤ g; omega) _)⟩
end
theorem mirror_good (cs : Array Value) (s : Ts) (w : World) (h : TsIs w cs s) (hf : faultT s = (0, 0)) : Calls Tryz.prog 7 #[.agg cs] w (SRetT w (mirrorG s)) := by
  have he : mirrorG s = (Tape.mirror s, (0, 0)) := by unfold mirrorG; rw [if_pos hf]
  rw [he]
  have HV := Lib.hid (fun (W : World) (hx : Ext w W) => hf ▸ Valid_t cs s W (h.ext hx))
  have hok := okt_of hf
  have hok2 := hok.1.len
  have hat := hok.1.at_
  have HCL := Lib.hid (fun (W : World) (hx : Ext w W) => clone_t cs s W (h.ext hx) (by omega) (by omega))
  have HS := Lib.hid h.size
  have HH := Lib.hid h
  have HOK := Lib.hid hok.1
  have hrl := hok.2
  clear he hf h hok
  go_enter Tryz.func7, Tryz.ntmps7
  go_upto_region 0 with (fail)
  go_cut [1, 2, 3] (fun s1 s2 s3 wx => s1 = .pointer (some ⟨w.heap.size, 0, none⟩) ∧ s2 = .pointer (some ⟨w.heap.size + 1, 0, none⟩) ∧ s3 = .pointer (some ⟨w.heap.size + 2, 0, none⟩) ∧ BegunT w wx cs)
  case first =>
    go_wp2_with (refine wpList_allocQ rfl rfl ?_)
    go_meet
    exact ⟨rfl, rfl, rfl, begunT_mk w cs⟩
  case rest =>
    obtain ⟨rfl, rfl, rfl, hbg⟩ := hcut
    have HG0 := Lib.hid hbg.g0
    have HBG := Lib.hid hbg
    clear hbg
    go_wp2_with (refine wpList_load_row rfl 25 _ rfl w.heap.size rfl 25 cs (0, 0) _ HG0.out Tryz.underlying25 rfl (by rw [HS.out]; exact sizeQ) ?_)
    refine (HV.out wc HBG.out.x).mono ?_
    rintro e w1 ⟨rfl, hx1⟩
    have HB1 := Lib.hid (HBG.out.ext hx1)
    have HG1 := Lib.hid (fun o => ext_heap ((Ext.refl w1).alloc o) HB1.out.g0)
    clear hx1
    simp only [fAgg]
    go_upto_region 4 with (fail)
    go_cut [5] (fun s5 wx => ∃ bm cs' v0 v1, s5 = .pointer (some ⟨bm, 0, none⟩) ∧ Turned w wx cs bm s cs' v0 v1)
    case first =>
      go_wp2_with (refine wpList_load_row rfl 25 _ rfl w.heap.size rfl 25 cs (0, 0) _ (HG1.out _) Tryz.underlying25 rfl (by rw [HS.out]; exact sizeQ) ?_)
      refine (HCL.out _ (HB1.out.x.alloc _)).mono ?_
      rintro e w2 ⟨v0, v1, rfl, ho0, ho1, hx2⟩
      have hlt1 := HB1.out.lt
      have HBC := Lib.hid ((HB1.out.ext ((Ext.refl w1).alloc _)).ext hx2)
      have HMK := Lib.hid (Turned.mk (mrIs_mk (B := w.heap.size + 3) HH.out (town_base ho0 (by simp; omega)) (town_base ho1 (by simp; omega)) (by have := HBC.out.lt; omega)) (HBC.out.ext (((Ext.refl w2).alloc (.cells zeroTs 25)).setRow (Nat.le_refl _) _)))
      have HON := Lib.hid (ts_one HH.out ho0 ho1)
      have HA := Lib.hid (heap_alloc_new w2 (.cells zeroTs 25))
      have HS2 : Hid (((cs.setIfInBounds 0 v0).setIfInBounds 1 v1).size = 5) := Lib.hid (by simpa using HS.out)
      clear ho0 ho1 hx2
      obtain ⟨cz, hcz⟩ : ∃ cz, cz = (cs.setIfInBounds 0 v0).setIfInBounds 1 v1 := ⟨_, rfl⟩
      rw [← hcz] at HMK HON HS2 ⊢
      clear hcz
      go_wp2_with (first | refine wpList_allocQ rfl rfl ?_ | refine wpList_store_row rfl 25 _ _ rfl w2.heap.size cz rfl rfl 25 zeroTs HA.out (by rw [HS2.out]; exact sizeQ) (by rw [HS2.out]; rfl) HON.out ?_)
      go_meet
      exact ⟨_, _, _, _, rfl, HMK.out⟩
    case rest =>
      obtain ⟨bm, cs', v0, v1, rfl, htu⟩ := hcut
      obtain ⟨wa, rfl⟩ : ∃ wa : World, wa = wc := ⟨_, rfl⟩
      have hv1 : ∃ g c, v1 = .slice (some ⟨g, 0, none⟩) s.cells.length c := by
        rcases htu.m.own1.2 with ⟨_, hn⟩ | ⟨g, cap, cur, hv, _⟩
        · omega
        · exact ⟨g, cap, hv⟩
      obtain ⟨g1, c1, rfl⟩ := hv1
      have HTU := Lib.hid htu
      have y1 : wa.cell? ⟨bm, 1, none⟩ = some (.slice (some ⟨g1, 0, none⟩) s.cells.length c1) := by rw [htu.m.cell, htu.m.c1]
      have HREV := Lib.hid (Tryz.slices_Reverse_int_cells g1 0 s.cells.length c1 s.cells wa (Nat.le_refl _) (by omega) (fun j hj => by have := htu.m.own1.cells (g := g1) rfl j (.int .i64 (s.cells.getD j 0)) (by rw [List.getElem?_map, List.getD_eq_getElem?_getD, List.getElem?_eq_getElem hj]; rfl); rw [add_off] at this; exact this) (fun j _ => by simpa using htu.m.own1.frozenAt j))
      clear htu
      go_upto_region 5 with (fail)
      go_cut [] (fun wx => Turned w wx cs bm { s with cells := s.cells.reverse } cs' v0 (.slice (some ⟨g1, 0, none⟩) s.cells.length c1))
      case first =>
        go_wp2_with fail
        refine HREV.out.mono ?_
        rintro e w3 ⟨rfl, q, rfl⟩
        have HT2 := Lib.hid (HTU.out.rev q)
        go_wp2_with fail
        go_meet
        exact HT2.out
      have HT3 := Lib.hid hcut
      obtain ⟨wb, rfl⟩ : ∃ wb : World, wb = wc := ⟨_, rfl⟩
      have z1 : wb.cell? ⟨bm, 1, none⟩ = some (.slice (some ⟨g1, 0, none⟩) s.cells.length c1) := by rw [hcut.m.cell, hcut.m.c1]
      have z2 : wb.cell? ⟨bm, 2, none⟩ = some (.int .i64 s.at_) := by rw [hcut.m.cell]; exact hcut.m.at_
      have f2 : wb.frozen? ⟨bm, 2, none⟩ = false := hcut.m.frozen 2
      have hbl : bm < wb.heap.size := hcut.m.lt
      clear hcut y1
      go_upto_region 6 with (fail)
      go_cut [] (fun wx => Turned w wx cs bm (midT s) (cs'.setIfInBounds 2 (.int .i64 (s.cells.length - 1 - s.at_))) v0 (.slice (some ⟨g1, 0, none⟩) s.cells.length c1))
      case first =>
        go_wp2
        go_meet
        exact HT3.out.at1
      obtain ⟨wd, rfl⟩ : ∃ wd : World, wd = wc := ⟨_, rfl⟩
      obtain ⟨A0, c0, e0, -, -, -, -⟩ := own_sl5 hcut.m.own0
      obtain ⟨N, hN⟩ : ∃ N, N = s.rules.length := ⟨_, rfl⟩
      have e0' : v0 = .slice A0 N c0 := by rw [hN]; exact e0
      subst e0'
      have HN := Lib.hid hN
      have x0 : wd.cell? ⟨bm, 0, none⟩ = some (.slice A0 N c0) := by rw [hcut.m.cell, hcut.m.c0]
      have HI := Lib.hid (Turned.mk0 hcut)
      have hN64 : N ≤ 64 := by omega
      clear hcut hN e0 z1 z2 f2 hbl
      go_upto_region 7 with (fail)
      go_wp2
      obtain ⟨cz, hcz⟩ : ∃ cz, cz = cs'.setIfInBounds 2 (.int .i64 (s.cells.length - 1 - s.at_)) := ⟨_, rfl⟩
      rw [← hcz] at HI
      clear hcz
      go_loopw [30] (fun t30 wx => ∃ k : Nat, k ≤ N ∧ t30 = .int .i64 k ∧ Turned w wx cs bm (turnK s k) cz (.slice A0 N c0) (.slice (some ⟨g1, 0, none⟩) s.cells.length c1)) (fun t30 _ => N - (intOf t30).toNat)
      case atStart => exact ⟨0, Nat.zero_le _, rfl, HI.out⟩
      case round =>
        obtain ⟨k, hk, rfl, hl⟩ := hrel
        by_cases hlt : k < N
        · obtain ⟨r, hr⟩ : ∃ r, s.rules[k]? = some r := ⟨_, List.getElem?_eq_getElem (by rw [← HN.out]; exact hlt)⟩
          have hA : ∃ g0, A0 = some ⟨g0, 0, none⟩ := by
            rcases hl.m.own0.2 with ⟨hv, _⟩ | ⟨g, cap, cur, hv, _⟩
            · injection hv with _ h2 _; omega
            · injection hv with h1 _ _; exact ⟨g, h1⟩
          obtain ⟨g0, rfl⟩ := hA
          have x0 : wr.cell? ⟨bm, 0, none⟩ = some (.slice (some ⟨g0, 0, none⟩) N c0) := by rw [hl.m.cell, hl.m.c0]
          have HL := Lib.hid hl
          have hrf := rule_fits (HOK.out.rules r (List.mem_of_getElem? hr))
          have m0 := hrf.mv0
          have m1 := hrf.mv1
          have hc3 : wr.cell? ⟨g0, k * 5 + 3, none⟩ = some (.int .i64 r.mv) := hl.mvCell hr rfl
          have hf3 : wr.frozen? ⟨g0, k * 5 + 3, none⟩ = false := hl.mvFroz
          have hg0 : g0 < wr.heap.size := hl.mvLt
          have HNX := Lib.hid (hl.nextT hr)
          have hwm : IntKind.i64.wrap (-r.mv) = -r.mv := IntWalk.i64_in _ (by omega)
          have hgb : bm ≠ g0 := hl.gNe
          clear hl hrf
          go_upto_region 10 with (fail)
          refine wp_region_held_drew (S := (fun w' => w'.cell? ⟨bm, 0, none⟩ = some (.slice (some ⟨g0, 0, none⟩) N c0))) (by kernel_rfl) ?_ (fun hHeld => ?_)
          · exact x0
          refine wpAnyH_take (i := 0) (oi := { dst := some 33, op := _, type := _, pos := _, after := _, guard := _ }) (v := ?v1001) rfl (by kernel_rfl) (by kernel_rfl) (by kernel_rfl) (fun _ _ _ h => h) (Or.inl ⟨by rfl, ?hy1001⟩) (by assumption) ?rest1001
          case hy1001 => (intro w hSw; (try dsimp only at hSw); go_simp; (try with_reducible rfl))
          try simp only [Act.put, List.setIfInBounds_toArray, List.set_cons_zero, List.set_cons_succ]
          refine wpAnyH_take (i := 1) (oi := { dst := some 34, op := _, type := _, pos := _, after := _, guard := _ }) (v := ?v1002) rfl (by kernel_rfl) (by kernel_rfl) (by kernel_rfl) (fun _ _ _ h => h) (Or.inl ⟨by rfl, ?hy1002⟩) (by assumption) ?rest1002
          case hy1002 => (intro w hSw; (try dsimp only at hSw); go_simp; (try with_reducible rfl))
          try simp only [Act.put, List.setIfInBounds_toArray, List.set_cons_zero, List.set_cons_succ]
          refine wpAnyH_take (i := 2) (oi := { dst := some 35, op := _, type := _, pos := _, after := _, guard := _ }) (v := ?v1003) rfl (by kernel_rfl) (by kernel_rfl) (by kernel_rfl) (fun _ _ _ h => h) (Or.inl ⟨by rfl, ?hy1003⟩) (by assumption) ?rest1003
          case hy1003 => (intro w hSw; (try dsimp only at hSw); go_simp; (try with_reducible rfl))
          try simp only [Act.put, List.setIfInBounds_toArray, List.set_cons_zero, List.set_cons_succ]
          refine wpAnyH_take (i := 3) (oi := { dst := some 36, op := _, type := _, pos := _, after := _, guard := _ }) (v := ?v1004) rfl (by kernel_rfl) (by kernel_rfl) (by kernel_rfl) (fun _ _ _ h => h) (Or.inl ⟨by rfl, ?hy1004⟩) (by assumption) ?rest1004
          case hy1004 => (intro w hSw; (try dsimp only at hSw); go_simp; (try with_reducible rfl))
          try simp only [Act.put, List.setIfInBounds_toArray, List.set_cons_zero, List.set_cons_succ]
          refine wpAnyH_take (i := 4) (oi := { dst := some 37, op := _, type := _, pos := _, after := _, guard := _ }) (v := ?v1005) rfl (by kernel_rfl) (by kernel_rfl) (by kernel_rfl) (fun _ _ _ h => h) (Or.inl ⟨by rfl, ?hy1005⟩) (by assumption) ?rest1005
          case hy1005 => (intro w hSw; (try dsimp only at hSw); go_simp; (try with_reducible rfl))
          try simp only [Act.put, List.setIfInBounds_toArray, List.set_cons_zero, List.set_cons_succ]
          refine wpAnyH_take (i := 5) (oi := { dst := some 38, op := _, type := _, pos := _, after := _, guard := _ }) (v := ?v1006) rfl (by kernel_rfl) (by kernel_rfl) (by kernel_rfl) (fun _ _ _ h => h) (Or.inl ⟨by rfl, ?hy1006⟩) (by assumption) ?rest1006
          case hy1006 => (intro w hSw; (try dsimp only at hSw); go_simp; (try with_reducible rfl))
          try simp only [Act.put, List.setIfInBounds_toArray, List.set_cons_zero, List.set_cons_succ]
          refine wpAnyH_take (i := 6) (oi := { dst := some 39, op := _, type := _, pos := _, after := _, guard := _ }) (v := ?v1007) rfl (by kernel_rfl) (by kernel_rfl) (by kernel_rfl) (fun _ _ _ h => h) (Or.inl ⟨by rfl, ?hy1007⟩) (by assumption) ?rest1007
          case hy1007 => (intro w hSw; (try dsimp only at hSw); go_simp; (try with_reducible rfl))
          try simp only [Act.put, List.setIfInBounds_toArray, List.set_cons_zero, List.set_cons_succ]
          refine wpAnyH_take (i := 7) (oi := { dst := some 40, op := _, type := _, pos := _, after := _, guard := _ }) (v := ?v1008) rfl (by kernel_rfl) (by kernel_rfl) (by kernel_rfl) (fun _ _ _ h => h) (Or.inl ⟨by rfl, ?hy1008⟩) (by assumption) ?rest1008
          case hy1008 => (intro w hSw; (try dsimp only at hSw); go_simp; (try with_reducible rfl))
          try simp only [Act.put, List.setIfInBounds_toArray, List.set_cons_zero, List.set_cons_succ]
          refine wpAnyH_ready (rs := [8]) (by kernel_rfl) (by simp) ?_
          refine (AllReadyH.cons (o := { dst := some 41, op := _, type := _, pos := _, after := _, guard := _ }) rfl (fun K hK => ?_) AllReadyH.nil)
          · go_simp
            refine hK.out _ _ ?_ (fun hHeld => ?_)
            · exact hHeld
            clear hK K
            try simp only [Act.put, List.setIfInBounds_toArray, List.set_cons_zero, List.set_cons_succ]
            refine wpAnyH_take (i := 9) (oi := { dst := some 42, op := _, type := _, pos := _, after := _, guard := _ }) (v := ?v1009) rfl (by kernel_rfl) (by kernel_rfl) (by kernel_rfl) (fun _ _ _ h => h) (Or.inl ⟨by rfl, ?hy1009⟩) (by assumption) ?rest1009
            case hy1009 => (intro w hSw; (try dsimp only at hSw); go_simp; (try with_reducible rfl))
            try simp only [Act.put, List.setIfInBounds_toArray, List.set_cons_zero, List.set_cons_succ]
            refine wpAnyH_take (i := 10) (oi := { dst := some 43, op := _, type := _, pos := _, after := _, guard := _ }) (v := ?v1010) rfl (by kernel_rfl) (by kernel_rfl) (by kernel_rfl) (fun _ _ _ h => h) (Or.inl ⟨by rfl, ?hy1010⟩) (by assumption) ?rest1010
            case hy1010 => (intro w hSw; (try dsimp only at hSw); go_simp; (try with_reducible rfl))
            try simp only [Act.put, List.setIfInBounds_toArray, List.set_cons_zero, List.set_cons_succ]
            refine wpAnyH_take (i := 11) (oi := { dst := some 44, op := _, type := _, pos := _, after := _, guard := _ }) (v := ?v1011) rfl (by kernel_rfl) (by kernel_rfl) (by kernel_rfl) (fun _ _ _ h => h) (Or.inl ⟨by rfl, ?hy1011⟩) (by assumption) ?rest1011
            case hy1011 => (intro w hSw; (try dsimp only at hSw); go_simp; (try with_reducible rfl))
            try simp only [Act.put, List.setIfInBounds_toArray, List.set_cons_zero, List.set_cons_succ]
            refine wpAnyH_ready (rs := [12]) (by kernel_rfl) (by simp) ?_
            refine (AllReadyH.cons (o := { dst := none, op := _, type := _, pos := _, after := _, guard := _ }) rfl (fun K hK => ?_) AllReadyH.nil)
            · go_simp
              refine hK.out _ _ ?_ (fun hHeld => ?_)
              · exact keep_cell hHeld (.inl hgb)
              clear hK K
              try simp only [Act.put, List.setIfInBounds_toArray, List.set_cons_zero, List.set_cons_succ]
              refine wpAnyH_done (by kernel_rfl) ?_ _
              go_wp2
              refine ⟨⟨k + 1, by omega, by go_num, HNX.out.drewT⟩, by simp [intOf]; omega⟩
        · have hkN : k = N := by omega
          subst hkN
          have hfin : Turned w wr cs bm (Tape.mirror s) cz (.slice A0 k c0) (.slice (some ⟨g1, 0, none⟩) s.cells.length c1) := by
            have := hl
            rw [HN.out, turnK_all] at this
            rw [HN.out]; exact this
          have HF := Lib.hid hfin
          have HSZ := Lib.hid hfin.m.size
          have HGB := Lib.hid hfin.m.blk
          have HW := Lib.hid (mirG_fin hfin.m hfin.b (mirror_wf HOK.out))
          clear hl hfin
          have HB2 := Lib.hid ((setRow_other wr (w.heap.size + 1) (w.heap.size + 2) cz (by omega)).trans HF.out.b.g2)
          go_wp2_with (first | refine wpList_load_row rfl 25 _ rfl bm rfl 25 cz (0, 0) _ HGB.out Tryz.underlying25 rfl (by rw [HSZ.out]; exact sizeQ) ?_ | refine wpList_store_row rfl 25 _ _ rfl (w.heap.size + 1) cz rfl rfl 25 zeroTs HF.out.b.g1 (by rw [HSZ.out]; exact sizeQ) (by rw [HSZ.out]; rfl) HF.out.m.one ?_ | refine wpList_store_row rfl 27 _ _ rfl (w.heap.size + 2) #[.int .i64 0, .int .i64 0] rfl rfl 27 _ HB2.out sizeF rfl (by kernel_rfl) ?_)
          refine bodyPost_ret (results_two rfl _ _ (w.heap.size + 1) (w.heap.size + 2) 25 27 cz #[.int .i64 0, .int .i64 0] (0, 0) (0, 0) _ _ rfl ?_ Tryz.underlying25 rfl (by rw [HSZ.out]; exact sizeQ) rfl ?_ Tryz.underlying27 rfl sizeF) rfl HW.out
          · rw [setRow_other _ _ _ _ (by omega)]; exact setRow_heap _ _ _ _ _ _ HF.out.b.g1
          · exact setRow_heap _ _ _ _ _ _ HB2.out
theorem mirror_all (cs : Array Value) (s : Ts) (w : World) (h : TsIs w cs s) : Calls Tryz.prog 7 #[.agg cs] w (SRetT w (mirrorG s)) := by
  by_cases hf : faultT s = (0, 0)
  · exact mirror_good cs s w h hf
  · exact mirror_bad cs s w h hf
end Go.Proofs.YtbaahbpianingaaGreatDoor
