import Derived.Test.YtbaahbpianingaaGreatDoorMg11
import Derived.Test.YtbaahbpianingaaGreatDoorMg4
namespace Go.Proofs.YtbaahbpianingaaGreatDoor
open Go Go.Proofs Go.RowKit
open Tape (Rule Ts)
set_option maxHeartbeats 6400000
set_option maxRecDepth 100000
theorem own_slf5 {w : World} {base : Nat} {e : TypeId} {size : Nat} {v : Value} {n : Nat} {xs : List Value} (h : w.ownsRow base e size v n xs) {bad : Nat → Prop} (hb : ∀ g, v.ownBlock = some g → ¬ bad g) : ∃ A c, v = .slice A n c ∧ n ≤ c ∧ c ≤ maxLen ∧ (A = none → c = 0) ∧ SlF w A xs bad := by
  obtain ⟨A, c, rfl, h1, h2, h3, h4⟩ := own_sl5 h
  refine ⟨A, c, rfl, h1, h2, h3, fun i u hu => ?_⟩
  obtain ⟨a, ha, hc⟩ := h4 i u hu
  exact ⟨a, ha, hc, hb _ (by rw [ha]; rfl)⟩
theorem own_two {w : World} {b b' : Nat} {e e' : TypeId} {sz sz' : Nat} {v v' : Value} {n n' : Nat} {xs ys : List Value} (h : w.ownsRow b e sz v n xs) (h' : w.ownsRow b' e' sz' v' n' ys) (he : e ≠ e') : ∀ g, v.ownBlock = some g → v'.ownBlock ≠ some g := by
  intro g hg
  rcases h.2 with ⟨rfl, _⟩ | ⟨g', cap, cur, rfl, _, hh, _⟩
  · simp [Value.ownBlock] at hg
  · have : g' = g := by simpa [Value.ownBlock] using hg
    subst this
    exact own_ne h' hh (Ne.symm he)
theorem scan_ok : ∀ (M : List Rule) (i : Nat) (p : Option Rule), scanR i p M = (0, 0) → ∀ r ∈ M, Tape.ruleB r = true
  | [], _, _, _, r, hr => by simp at hr
  | q :: M, i, p, h, r, hr => by
    rw [scanR] at h
    split at h
    · simp at h
    · rename_i h1
      split at h
      · simp at h
      · rcases List.mem_cons.1 hr with e | e
        · subst e; simpa using h1
        · exact scan_ok M _ _ h r e
theorem rules_ok {L : List Rule} (h : faultR L = (0, 0)) : L.length ≤ 64 ∧ ∀ r ∈ L, Tape.ruleB r = true := by
  unfold faultR at h
  split at h
  · simp at h
  · exact ⟨by omega, scan_ok _ _ _ h⟩
theorem sym_of {l : List Int} (h : badB l = false) : ∀ c ∈ l, 0 ≤ c ∧ c ≤ 3 := by
  intro c hc
  unfold badB at h
  rw [List.any_eq_false] at h
  have := h c hc
  unfold symB inB at this
  simpa using this
theorem okt_of {s : Ts} (hf : faultT s = (0, 0)) : Tape.Ok s ∧ s.rules.length ≤ 64 := by
  unfold faultT at hf
  split at hf
  · rename_i h1; exact absurd hf h1
  rename_i h1
  split at hf
  · exact absurd hf (by decide)
  split at hf
  · exact absurd hf (by decide)
  rename_i h2 h3
  have h1' := rules_ok (Classical.not_not.1 h1)
  simp only [not_or] at h3
  obtain ⟨a, b, c, d⟩ := h3
  have e0 := sym_of (by simpa using a)
  unfold inB at h2 b c d
  have e1 : (1 : Int) ≤ s.cells.length ∧ (s.cells.length : Int) ≤ 200 := by simpa using h2
  have e2 : 0 ≤ s.at_ ∧ s.at_ ≤ s.cells.length - 1 := by simpa using b
  have e3 : 0 ≤ s.state ∧ s.state ≤ 15 := by simpa using c
  have e4 : 0 ≤ s.stop ∧ s.stop ≤ 7 := by simpa using d
  exact ⟨⟨h1'.2, by omega, e0, by omega, e3, e4⟩, h1'.1⟩
theorem i64_small {n : Int} (h1 : -100000 ≤ n) (h2 : n ≤ 100000) : I64 n := ⟨by omega, by omega⟩
theorem fits_wf {r : Rule} (h : RuleFits r) : RuleWf r := by
  obtain ⟨a1, a2, a3, a4, a5, a6, a7, a8, a9, a10⟩ := h
  exact ⟨i64_small (by omega) (by omega), i64_small (by omega) (by omega), i64_small (by omega) (by omega), i64_small (by omega) (by omega), i64_small (by omega) (by omega)⟩
theorem okt_wf {s : Ts} (h : Tape.Ok s) : TsWf s := by
  have h1 := h.len
  have h2 := h.at_
  have h3 := h.state
  have h4 := h.stop
  exact ⟨fun r hr => fits_wf (rule_fits (h.rules r hr)), fun x hx => by have := h.cells x hx; exact i64_small (by omega) (by omega), i64_small (by omega) (by omega), i64_small (by omega) (by omega), i64_small (by omega) (by omega)⟩
theorem tm_fr {wx F : World} {B0 B bm : Nat} {s : Ts} {cs : Array Value} {vc : Value} (h : TmIs wx B bm s cs vc) (hB : B0 ≤ B) (hw : TsWf s) (hF : ∀ g, B0 ≤ g → g < wx.heap.size → F.heap[g]? = wx.heap[g]?) : TsIs F cs s := by
  obtain ⟨A, c, h1, h2, h3, h4, h5⟩ := h.rules
  refine ⟨h.size, ⟨A, c, h1, h2, h3, h4, ?_⟩, ?_, h.at_, h.state, h.stop, hw⟩
  · exact (h5.keep (bad' := fun _ => False) (fun g hg hl => hF g (by have : ¬ g < B := fun q => hg (.inr (.inr q)); omega) hl) (fun _ _ x => x.elim)).sl
  · obtain ⟨A', c', hv, k2, k3, k4, k5⟩ := own_sl (own_keep (w' := F) h.own fun g hg => hF g (by have := (own_lt h.own hg).1; omega) (own_lt h.own hg).2)
    exact ⟨A', c', by rw [h.cells, hv], k2, k3, k4, k5⟩
theorem BegunT.below {w wx w1 : World} {cs : Array Value} (h : BegunT w wx cs) {B : Nat} (hb : w.heap.size + 2 < B) (x : Below B wx w1) : BegunT w w1 cs := by
  refine ⟨?_, ?_, ?_, h.x.trans' x (by omega)⟩
  · rw [x.block _ (by omega)]; exact h.g0
  · rw [x.block _ (by omega)]; exact h.g1
  · rw [x.block _ (by omega)]; exact h.g2
/-- The state has been copied. -/
structure CopiedT (w wx : World) (cs : Array Value) (bm : Nat) (s : Ts) (cs' : Array Value) (vc : Value) : Prop where
  m : TmIs wx (w.heap.size + 3) bm s cs' vc
  b : BegunT w wx cs
theorem copiedT_mk {w w2 : World} {cs : Array Value} {s : Ts} {v0 v1 : Value} (h : TsIs w cs s) (hb : BegunT w w2 cs) (h0 : w2.ownsRow (w.heap.size + 3) 54 5 v0 s.rules.length (rulesV s.rules)) (h1 : w2.ownsRow (w.heap.size + 3) 3 1 v1 s.cells.length (s.cells.map (Value.int .i64))) :
    CopiedT w ((w2.alloc (.cells zeroTs 25)).setRow w2.heap.size ((cs.setIfInBounds 0 v0).setIfInBounds 1 v1)) cs w2.heap.size s ((cs.setIfInBounds 0 v0).setIfInBounds 1 v1) v1 := by
  have hlt := hb.lt
  have hx : Ext w2 ((w2.alloc (.cells zeroTs 25)).setRow w2.heap.size ((cs.setIfInBounds 0 v0).setIfInBounds 1 v1)) := ((Ext.refl w2).alloc _).setRow (Nat.le_refl _) _
  have o0 := town_ext h0 hx
  have o1 := town_ext h1 hx
  have hsz := h.size
  have hbad : ∀ g, v0.ownBlock = some g → ¬ badT (w.heap.size + 3) w2.heap.size v1 g := by
    intro g hg hb
    have l1 := own_lt h0 hg
    rcases hb with hb | hb | hb
    · omega
    · exact own_two o0 o1 (by decide) g hg hb
    · omega
  obtain ⟨A, c, hv, g1, g2, g3, g4⟩ := own_slf5 o0 hbad
  subst hv
  refine ⟨⟨setRow_heap _ _ _ _ _ _ (heap_alloc_new w2 _), by omega, by simpa using hsz, ⟨A, c, ?_, g1, g2, g3, g4⟩, ?_, o1, ?_, ?_, ?_⟩, hb.ext hx⟩
  · rw [getD_set, if_neg (by decide), getD_set, if_pos rfl, if_pos (by omega)]
  · rw [getD_set, if_pos rfl, if_pos (by simp; omega)]
  · rw [getD_set, if_neg (by decide), getD_set, if_neg (by decide)]; exact h.at_
  · rw [getD_set, if_neg (by decide), getD_set, if_neg (by decide)]; exact h.state
  · rw [getD_set, if_neg (by decide), getD_set, if_neg (by decide)]; exact h.stop
/-- The loop of Run: after k steps. -/
structure LoopyT (w wx : World) (cs : Array Value) (bm : Nat) (s : Ts) (n k : Nat) (sk : Ts) (cs' : Array Value) (vc : Value) : Prop where
  m : TmIs wx (w.heap.size + 3) bm sk cs' vc
  b : BegunT w wx cs
  ok : Tape.Ok sk
  run : Tape.runF n s = ((Tape.runF (n - k) sk).1, (Tape.runF (n - k) sk).2 + k)
theorem LoopyT.mk0 {w wx : World} {cs : Array Value} {bm : Nat} {s : Ts} {n : Nat} {cs' : Array Value} {vc : Value} (h : CopiedT w wx cs bm s cs' vc) (ho : Tape.Ok s) : LoopyT w wx cs bm s n 0 s cs' vc :=
  ⟨h.m, h.b, ho, by simp⟩
theorem LoopyT.next {w wx w1 : World} {cs : Array Value} {bm : Nat} {s : Ts} {n k : Nat} {sk : Ts} {cs' cs2 : Array Value} {vc v2 : Value} (h : LoopyT w wx cs bm s n k sk cs' vc) (hk : k < n) (hs : sk.stop = 0)
    (hm : TmIs w1 (w.heap.size + 3) bm (Tape.stepF sk) cs2 v2) (hb : Below (w.heap.size + 3) wx w1) : LoopyT w w1 cs bm s n (k + 1) (Tape.stepF sk) cs2 v2 := by
  refine ⟨hm, h.b.below (by omega) hb, Tape.step_ok h.ok, ?_⟩
  rw [h.run, show n - k = (n - (k + 1)) + 1 from by omega]
  simp only [Tape.runF, hs, if_true]
  rw [Nat.add_assoc, Nat.add_comm 1 k]
theorem LoopyT.fin {w wx : World} {cs : Array Value} {bm : Nat} {s : Ts} {n k : Nat} {sk : Ts} {cs' : Array Value} {vc : Value} (h : LoopyT w wx cs bm s n k sk cs' vc) (hk : ¬ (k < n ∧ sk.stop = 0)) : Tape.runF n s = (sk, k) := by
  rw [h.run]
  cases hn : n - k with
  | zero => simp [Tape.runF]
  | succ m =>
    have : ¬ sk.stop = 0 := fun hs => hk ⟨by omega, hs⟩
    simp [Tape.runF, this]
theorem cells5_one {cs : Array Value} {A B : Option Addr} {n c m d : Nat} {x y z : Int} (hsz : cs.size = 5) (h0 : cs[0]? = some (.slice A n c)) (h1 : cs[1]? = some (.slice B m d)) (h2 : cs[2]? = some (.int .i64 x)) (h3 : cs[3]? = some (.int .i64 y)) (h4 : cs[4]? = some (.int .i64 z)) : cs.all (·.oneCell') = true := by
  rw [Array.all_eq_true]
  intro i hi
  have key : ∀ v, cs[i]? = some v → v.oneCell' = true → cs[i].oneCell' = true := by
    intro v hv ho
    rw [Array.getElem?_eq_getElem hi] at hv
    cases hv
    exact ho
  have : i = 0 ∨ i = 1 ∨ i = 2 ∨ i = 3 ∨ i = 4 := by omega
  rcases this with rfl | rfl | rfl | rfl | rfl
  · exact key _ h0 rfl
  · exact key _ h1 rfl
  · exact key _ h2 rfl
  · exact key _ h3 rfl
  · exact key _ h4 rfl
theorem tm_one {w : World} {B bm : Nat} {s : Ts} {cs : Array Value} {vc : Value} (h : TmIs w B bm s cs vc) : cs.all (·.oneCell') = true := by
  obtain ⟨A, c, e0, _⟩ := h.rules
  obtain ⟨A', c', e1, _⟩ := own_sl h.own
  exact cells5_one h.size e0 (by rw [h.cells, e1]) h.at_ h.state h.stop
theorem tsq_one {w : World} {s : Ts} {cs : Array Value} (h : TsIs w cs s) : cs.all (·.oneCell') = true := by
  obtain ⟨A, c, e0, _⟩ := h.rules
  obtain ⟨A', c', e1, _⟩ := h.cells
  exact cells5_one h.size e0 e1 h.at_ h.state h.stop
theorem runT_fin {w wx : World} {cs : Array Value} {bm : Nat} {s : Ts} {n k : Nat} {sk : Ts} {cs' : Array Value} {vc : Value} (h : LoopyT w wx cs bm s n k sk cs' vc) (hf : Tape.runF n s = (sk, k)) :
    RunRetT w ((Tape.runF ((n : Int)).toNat s).1, ((Tape.runF ((n : Int)).toNat s).2 : Int), (0, 0)) (.returned (.tuple #[.agg cs', .int .i64 (k : Int), .agg #[.int .i64 0, .int .i64 0]])) ((wx.setRow (w.heap.size + 1) cs').setRow (w.heap.size + 2) #[.int .i64 0, .int .i64 0]) := by
  rw [Int.toNat_natCast, hf]
  refine ⟨cs', rfl, fun F hF => tm_fr (B0 := w.heap.size + 3) h.m (Nat.le_refl _) (okt_wf h.ok) fun g hg hl => ?_, (h.b.x.setRow (by omega) _).setRow (by omega) _⟩
  rw [hF g (by omega) (by simpa using hl), setRow_other _ _ _ _ (by omega), setRow_other _ _ _ _ (by omega)]
theorem runT_good (cs : Array Value) (s : Ts) (n : Int) (w : World) (h : TsIs w cs s) (hf : faultT s = (0, 0)) (hn : 0 ≤ n ∧ n ≤ 60000) : Calls Tryz.prog 35 #[.agg cs, .int .i64 n] w (RunRetT w (runGT s n)) := by
  have he : runGT s n = ((Tape.runF n.toNat s).1, ((Tape.runF n.toNat s).2 : Int), (0, 0)) := by unfold runGT; rw [if_pos hf, if_pos hn]
  have HV := Lib.hid (fun (W : World) (hx : Ext w W) => hf ▸ Valid_t cs s W (h.ext hx))
  have hok := okt_of hf
  have hok2 := hok.1.len
  have HCL := Lib.hid (fun (W : World) (hx : Ext w W) => clone_t cs s W (h.ext hx) (by omega) (by omega))
  have HS := Lib.hid h.size
  have HH := Lib.hid h
  have HE := Lib.hid he
  have HOK := Lib.hid hok.1
  obtain ⟨n0, n1⟩ := hn
  clear he hf h hok hok2
  go_enter Tryz.func35, Tryz.ntmps35
  go_upto_region 0 with (fail)
  go_cut [2, 4, 5, 6] (fun s2 s4 s5 s6 wx => s2 = .pointer (some ⟨w.heap.size, 0, none⟩) ∧ s4 = .pointer (some ⟨w.heap.size + 1, 0, none⟩) ∧ s5 = .int .i64 0 ∧ s6 = .pointer (some ⟨w.heap.size + 2, 0, none⟩) ∧ BegunT w wx cs)
  case first =>
    go_wp2_with (refine wpList_allocQ rfl rfl ?_)
    go_meet
    exact ⟨rfl, rfl, rfl, rfl, begunT_mk w cs⟩
  case rest =>
    obtain ⟨rfl, rfl, rfl, rfl, hbg⟩ := hcut
    have HG0 := Lib.hid hbg.g0
    have HBG := Lib.hid hbg
    clear hbg
    go_wp2_with (refine wpList_load_row rfl 25 _ rfl w.heap.size rfl 25 cs (0, 0) _ HG0.out Tryz.underlying25 rfl (by rw [HS.out]; exact sizeQ) ?_)
    refine (HV.out wc HBG.out.x).mono ?_
    rintro e w1 ⟨rfl, hx1⟩
    have HB1 := Lib.hid (HBG.out.ext hx1)
    have HG1 := Lib.hid (fun o => ext_heap ((Ext.refl w1).alloc o) HB1.out.g0)
    clear hx1
    simp only [fAgg]
    go_upto_region 6 with (fail)
    go_cut [8] (fun s8 wx => ∃ bm cs' vc, s8 = .pointer (some ⟨bm, 0, none⟩) ∧ CopiedT w wx cs bm s cs' vc)
    case first =>
      go_wp2_with (refine wpList_load_row rfl 25 _ rfl w.heap.size rfl 25 cs (0, 0) _ (HG1.out _) Tryz.underlying25 rfl (by rw [HS.out]; exact sizeQ) ?_)
      refine (HCL.out _ (HB1.out.x.alloc _)).mono ?_
      rintro e w2 ⟨v0, v1, rfl, ho0, ho1, hx2⟩
      have hlt1 := HB1.out.lt
      have HBC := Lib.hid ((HB1.out.ext ((Ext.refl w1).alloc _)).ext hx2)
      have HMK := Lib.hid (copiedT_mk HH.out HBC.out (town_base ho0 (by simp; omega)) (town_base ho1 (by simp; omega)))
      have HON := Lib.hid (ts_one HH.out ho0 ho1)
      have HA := Lib.hid (heap_alloc_new w2 (.cells zeroTs 25))
      have HS2 : Hid (((cs.setIfInBounds 0 v0).setIfInBounds 1 v1).size = 5) := Lib.hid (by simpa using HS.out)
      clear ho0 ho1 hx2
      obtain ⟨cz, hcz⟩ : ∃ cz, cz = (cs.setIfInBounds 0 v0).setIfInBounds 1 v1 := ⟨_, rfl⟩
      rw [← hcz] at HMK HON HS2 ⊢
      clear hcz
      go_wp2_with (first | refine wpList_allocQ rfl rfl ?_ | refine wpList_store_row rfl 25 _ _ rfl w2.heap.size cz rfl rfl 25 zeroTs HA.out (by rw [HS2.out]; exact sizeQ) (by rw [HS2.out]; rfl) HON.out ?_)
      go_meet
      exact ⟨_, _, _, rfl, HMK.out⟩
    case rest =>
      obtain ⟨bm, cs', vc, rfl, hcp⟩ := hcut
      have HI := Lib.hid (LoopyT.mk0 (n := n.toNat) hcp HOK.out)
      clear hcp
      obtain ⟨N, hN⟩ : ∃ N : Nat, n = N := ⟨n.toNat, by omega⟩
      subst hN
      go_wp2
      go_loopw [9] (fun v9 wx => ∃ k : Nat, ∃ sk cs' vc, k ≤ N ∧ v9 = .int .i64 k ∧ LoopyT w wx cs bm s N k sk cs' vc) (fun v9 _ => N - (intOf v9).toNat)
      case atStart => exact ⟨0, s, cs', vc, Nat.zero_le _, rfl, HI.out⟩
      case round =>
        obtain ⟨k, sk, cs', vc, hk, rfl, hl⟩ := hrel
        have y4 : wr.cell? ⟨bm, 4, none⟩ = some (.int .i64 sk.stop) := by rw [hl.m.cell, hl.m.stop]
        by_cases hgo : k < N ∧ sk.stop = 0
        · obtain ⟨g1, g2⟩ := hgo
          have hst := step_t hl.m hl.ok
          have HST := Lib.hid hst
          have HL := Lib.hid hl
          have HG2 := Lib.hid g2
          rw [g2] at y4
          clear hst hl g2
          go_wp2_with (go_at_call 48; refine HST.out.mono ?_; rintro e w' ⟨rfl, cs2, v2, hm2, hb2⟩)
          refine ⟨⟨k + 1, Tape.stepF sk, cs2, v2, by omega, by go_num, HL.out.next g1 HG2.out hm2 hb2⟩, by simp [intOf]; omega⟩
        · have hfin := hl.fin hgo
          have HL := Lib.hid hl
          have HFIN := Lib.hid hfin
          have hgb : wr.heap[bm]? = some (.cells cs' 25 (0, 0)) := hl.m.blk
          have hg1 := hl.b.g1
          have hg2 := hl.b.g2
          have HSZ' := Lib.hid hl.m.size
          have HGB := Lib.hid hgb
          have HG1' := Lib.hid hg1
          have HG2' := Lib.hid (setRow_other wr (w.heap.size + 1) (w.heap.size + 2) cs' (by omega) |>.trans hg2)
          have hcase : (N ≤ k) ∨ (k < N ∧ (sk.stop == 0) = false) := by
            by_cases q : k < N
            · right; exact ⟨q, by simp; intro h0; exact hgo ⟨q, h0⟩⟩
            · left; omega
          clear hl hfin hgb hg1 hg2 hgo
          rcases hcase with hc1 | ⟨hc1, hc2⟩
          all_goals go_wp2_with (first | refine wpList_load_row rfl 25 _ rfl bm rfl 25 cs' (0, 0) _ HGB.out Tryz.underlying25 rfl (by rw [HSZ'.out]; exact sizeQ) ?_ | refine wpList_store_row rfl 25 _ _ rfl (w.heap.size + 1) cs' rfl rfl 25 zeroTs HG1'.out (by rw [HSZ'.out]; exact sizeQ) (by rw [HSZ'.out]; rfl) (tm_one HL.out.m) ?_ | refine wpList_store_row rfl 27 _ _ rfl (w.heap.size + 2) #[.int .i64 0, .int .i64 0] rfl rfl 27 _ HG2'.out sizeF rfl (by kernel_rfl) ?_)
          all_goals (
            refine bodyPost_ret (results_run rfl _ _ (w.heap.size + 1) (w.heap.size + 2) 25 27 cs' #[.int .i64 0, .int .i64 0] (0, 0) (0, 0) _ _ rfl ?_ Tryz.underlying25 rfl (by rw [HSZ'.out]; exact sizeQ) rfl ?_ Tryz.underlying27 rfl sizeF) rfl ?_
            · rw [setRow_other _ _ _ _ (by omega)]; exact setRow_heap _ _ _ _ _ _ HG1'.out
            · exact setRow_heap _ _ _ _ _ _ HG2'.out
            · rw [HE.out]
              exact runT_fin HL.out HFIN.out)
theorem runT_all (cs : Array Value) (s : Ts) (n : Int) (w : World) (h : TsIs w cs s) : Calls Tryz.prog 35 #[.agg cs, .int .i64 n] w (RunRetT w (runGT s n)) := by
  by_cases hf : faultT s = (0, 0)
  · by_cases hn : 0 ≤ n ∧ n ≤ 60000
    · exact runT_good cs s n w h hf hn
    · exact runT_range cs s n w h hf hn
  · exact runT_bad cs s n w h hf
end Go.Proofs.YtbaahbpianingaaGreatDoor
namespace Go.Proofs.YtbaahbpianingaaGreatDoor
open Go Go.Proofs Go.RowKit
open Tape (Rule Ts)
set_option maxHeartbeats 6400000
set_option maxRecDepth 100000
theorem stepT_ext (w1 : World) (cs' : Array Value) (c i : Int) (o : Obj) : Ext w1 ((((w1.alloc (.cells zeroTs 25)).alloc o).setRow w1.heap.size cs').setRow (w1.heap.size + 1) #[.int .i64 c, .int .i64 i]).drew :=
  ((((((Ext.refl w1).alloc _).alloc _).setRow (Nat.le_refl _) _).setRow (by omega) _).drew)
theorem stepT_heap (w1 : World) (cs' : Array Value) (c i : Int) (o : Obj) (ho : o = .cells #[.int .i64 0, .int .i64 0] 27 := by rfl) :
    ((((w1.alloc (.cells zeroTs 25)).alloc o).setRow w1.heap.size cs').setRow (w1.heap.size + 1) #[.int .i64 c, .int .i64 i]).drew.heap[w1.heap.size]? = some (.cells cs' 25 (0, 0)) ∧
    ((((w1.alloc (.cells zeroTs 25)).alloc o).setRow w1.heap.size cs').setRow (w1.heap.size + 1) #[.int .i64 c, .int .i64 i]).drew.heap[w1.heap.size + 1]? = some (.cells #[.int .i64 c, .int .i64 i] 27 (0, 0)) := by
  subst ho
  refine ⟨?_, ?_⟩
  · show (((((w1.alloc (.cells zeroTs 25)).alloc _).setRow w1.heap.size cs').setRow (w1.heap.size + 1) #[.int .i64 c, .int .i64 i])).heap[w1.heap.size]? = _
    rw [setRow_other _ _ _ _ (by omega)]
    exact setRow_heap _ _ _ _ _ _ (heap_alloc2_old w1 _ _)
  · show (((((w1.alloc (.cells zeroTs 25)).alloc _).setRow w1.heap.size cs').setRow (w1.heap.size + 1) #[.int .i64 c, .int .i64 i])).heap[w1.heap.size + 1]? = _
    exact setRow_heap _ _ _ _ _ _ ((setRow_other _ _ _ _ (by omega)).trans (heap_alloc2_new w1 _ _))
def SRetT (w : World) (r : Ts × (Int × Int)) (e : Ending) (w' : World) : Prop :=
  ∃ cs', e = .returned (.tuple #[.agg cs', fAgg r.2]) ∧ TsFr w.heap.size w' cs' r.1 ∧ Ext w w'
theorem stepT_fin {w w1 : World} {cs cs' : Array Value} {r1 : Ts} {c i : Int} {W : World} (h : TsFr W.heap.size w1 cs' r1) (hb : BegunT w ((((w1.alloc (.cells zeroTs 25)).alloc (.cells #[.int .i64 0, .int .i64 0] 27)).setRow w1.heap.size cs').setRow (w1.heap.size + 1) #[.int .i64 c, .int .i64 i]).drew cs) (hW : w.heap.size + 2 < W.heap.size) (_hlt : w.heap.size + 2 < w1.heap.size) :
    SRetT w (r1, (c, i)) (.returned (.tuple #[.agg cs', .agg #[.int .i64 c, .int .i64 i]])) (((((((w1.alloc (.cells zeroTs 25)).alloc (.cells #[.int .i64 0, .int .i64 0] 27)).setRow w1.heap.size cs').setRow (w1.heap.size + 1) #[.int .i64 c, .int .i64 i]).drew).setRow (w.heap.size + 1) cs').setRow (w.heap.size + 2) #[.int .i64 c, .int .i64 i]) := by
  refine ⟨cs', rfl, fun F hF => h F fun g hg hl => ?_, (hb.x.setRow (by omega) _).setRow (by omega) _⟩
  rw [hF g (by omega) (by have := (stepT_ext w1 cs' c i (.cells #[.int .i64 0, .int .i64 0] 27)).size; simp at this ⊢; omega), setRow_other _ _ _ _ (by omega), setRow_other _ _ _ _ (by omega)]
  exact (stepT_ext w1 cs' c i (.cells #[.int .i64 0, .int .i64 0] 27)).block g hl
theorem stepT_go (cs : Array Value) (s : Ts) (w : World) (h : TsIs w cs s) : Calls Tryz.prog 36 #[.agg cs] w (SRetT w ((runGT s 1).1, (runGT s 1).2.2)) := by
  have HV := Lib.hid (fun (W : World) (hx : Ext w W) => runT_all cs s 1 W (h.ext hx))
  obtain ⟨r, hr⟩ : ∃ r, runGT s 1 = r := ⟨_, rfl⟩
  rw [hr] at HV ⊢
  have HS := Lib.hid h.size
  clear h
  go_enter Tryz.func36, Tryz.ntmps36
  go_upto_region 0 with (fail)
  go_cut [1, 2, 3] (fun s1 s2 s3 wx => s1 = .pointer (some ⟨w.heap.size, 0, none⟩) ∧ s2 = .pointer (some ⟨w.heap.size + 1, 0, none⟩) ∧ s3 = .pointer (some ⟨w.heap.size + 2, 0, none⟩) ∧ BegunT w wx cs)
  case first =>
    go_wp2_with (refine wpList_allocQ rfl rfl ?_)
    go_meet
    exact ⟨rfl, rfl, rfl, begunT_mk w cs⟩
  case rest =>
    obtain ⟨rfl, rfl, rfl, hbg⟩ := hcut
    have HG0 := Lib.hid hbg.g0
    have HBG := Lib.hid hbg
    clear hbg
    go_wp2_with (refine wpList_load_row rfl 25 _ rfl w.heap.size rfl 25 cs (0, 0) _ HG0.out Tryz.underlying25 rfl (by rw [HS.out]; exact sizeQ) ?_)
    refine (HV.out wc HBG.out.x).mono ?_
    rintro e w1 ⟨cs', rfl, hi2, hx1⟩
    obtain ⟨r1, r2, c, i⟩ := r
    simp only [fAgg]
    have HI2 := Lib.hid hi2
    have HS2 := Lib.hid hi2.st.size
    have hlt1 := (HBG.out.ext hx1).lt
    have HB1 := Lib.hid (HBG.out.ext hx1)
    have H28 := Lib.hid (heap_alloc2_old w1 (.cells zeroTs 25) (.cells #[.int .i64 0, .int .i64 0] 27))
    have H30 := Lib.hid ((setRow_other _ w1.heap.size (w1.heap.size + 1) cs' (by omega)).trans (heap_alloc2_new w1 (.cells zeroTs 25) (.cells #[.int .i64 0, .int .i64 0] 27)))
    clear hx1 hi2
    go_wp2_with (first | refine wpList_allocQ rfl rfl ?_ | refine wpList_store_row rfl 25 _ _ rfl w1.heap.size cs' rfl rfl 25 zeroTs H28.out (by rw [HS2.out]; exact sizeQ) (by rw [HS2.out]; rfl) (tsq_one HI2.out.st) ?_ | refine wpList_store_row rfl 27 _ _ rfl (w1.heap.size + 1) #[.int .i64 c, .int .i64 i] rfl rfl 27 _ H30.out sizeF rfl (by kernel_rfl) ?_)
    have HX := Lib.hid (stepT_heap w1 cs' c i (.cells #[.int .i64 0, .int .i64 0] 27))
    have HB2 := Lib.hid (HB1.out.ext (stepT_ext w1 cs' c i (.cells #[.int .i64 0, .int .i64 0] 27)))
    refine wp_region_any (by kernel_rfl) ?_
    refine wpAny_ready (rs := [0, 1]) (by kernel_rfl) (by simp) ?_
    refine (AllReady.cons rfl (fun K hK => ?_) (AllReady.cons rfl (fun K hK => ?_) AllReady.nil))
    · refine step_load_row rfl 25 _ rfl w1.heap.size (by simp [Act.eval]) 25 cs' (0, 0) _ HX.out.1 Tryz.underlying25 rfl (by rw [HS2.out]; exact sizeQ) ?_
      refine hK _ _ ?_
      clear hK K
      refine wpAny_ready (rs := [1, 2]) (by kernel_rfl) (by simp) ?_
      refine (AllReady.cons rfl (fun K hK => ?_) (AllReady.cons rfl (fun K hK => ?_) AllReady.nil))
      · refine step_load_row rfl 27 _ rfl (w1.heap.size + 1) (by simp [Act.eval, Act.put]) 27 #[.int .i64 c, .int .i64 i] (0, 0) _ HX.out.2 Tryz.underlying27 rfl sizeF ?_
        refine hK _ _ ?_
        clear hK K
        refine wpAny_ready (rs := [2]) (by kernel_rfl) (by simp) ?_
        refine (AllReady.cons rfl (fun K hK => ?_) AllReady.nil)
        · refine step_store_row rfl 25 _ _ rfl (w.heap.size + 1) cs' (by simp [Act.eval, Act.put]) (by simp [Act.eval, Act.put]) 25 zeroTs HB2.out.g1 (by rw [HS2.out]; exact sizeQ) (by rw [HS2.out]; rfl) (tsq_one HI2.out.st) ?_
          refine hK _ _ ?_
          clear hK K
          refine wpAny_ready (rs := [3]) (by kernel_rfl) (by simp) ?_
          refine (AllReady.cons rfl (fun K hK => ?_) AllReady.nil)
          · refine step_store_row rfl 27 _ _ rfl (w.heap.size + 2) #[.int .i64 c, .int .i64 i] (by simp [Act.eval, Act.put]) (by simp [Act.eval, Act.put]) 27 _ ((setRow_other _ _ _ _ (by omega)).trans HB2.out.g2) sizeF rfl (by kernel_rfl) ?_
            refine hK _ _ ?_
            clear hK K
            refine wpAny_done (by kernel_rfl) ?_ _
            go_wp2_with fail
            refine bodyPost_ret (results_two rfl _ _ (w.heap.size + 1) (w.heap.size + 2) 25 27 cs' #[.int .i64 c, .int .i64 i] (0, 0) (0, 0) _ _ rfl ?_ Tryz.underlying25 rfl (by rw [HS2.out]; exact sizeQ) rfl ?_ Tryz.underlying27 rfl sizeF) rfl (stepT_fin HI2.out HB2.out HBG.out.lt HB1.out.lt)
            · rw [setRow_other _ _ _ _ (by omega)]; exact setRow_heap _ _ _ _ _ _ HB2.out.g1
            · exact setRow_heap _ _ _ _ _ _ ((setRow_other _ _ _ _ (by omega)).trans HB2.out.g2)
      · refine step_store_row rfl 25 _ _ rfl (w.heap.size + 1) cs' (by simp [Act.eval, Act.put]) (by simp [Act.eval, Act.put]) 25 zeroTs HB2.out.g1 (by rw [HS2.out]; exact sizeQ) (by rw [HS2.out]; rfl) (tsq_one HI2.out.st) ?_
        refine hK _ _ ?_
        clear hK K
        refine wpAny_ready (rs := [1]) (by kernel_rfl) (by simp) ?_
        refine (AllReady.cons rfl (fun K hK => ?_) AllReady.nil)
        · refine step_load_row rfl 27 _ rfl (w1.heap.size + 1) (by simp [Act.eval, Act.put]) 27 #[.int .i64 c, .int .i64 i] (0, 0) _ ((setRow_other _ _ _ _ (by omega)).trans HX.out.2) Tryz.underlying27 rfl sizeF ?_
          refine hK _ _ ?_
          clear hK K
          refine wpAny_ready (rs := [3]) (by kernel_rfl) (by simp) ?_
          refine (AllReady.cons rfl (fun K hK => ?_) AllReady.nil)
          · refine step_store_row rfl 27 _ _ rfl (w.heap.size + 2) #[.int .i64 c, .int .i64 i] (by simp [Act.eval, Act.put]) (by simp [Act.eval, Act.put]) 27 _ ((setRow_other _ _ _ _ (by omega)).trans HB2.out.g2) sizeF rfl (by kernel_rfl) ?_
            refine hK _ _ ?_
            clear hK K
            refine wpAny_done (by kernel_rfl) ?_ _
            go_wp2_with fail
            refine bodyPost_ret (results_two rfl _ _ (w.heap.size + 1) (w.heap.size + 2) 25 27 cs' #[.int .i64 c, .int .i64 i] (0, 0) (0, 0) _ _ rfl ?_ Tryz.underlying25 rfl (by rw [HS2.out]; exact sizeQ) rfl ?_ Tryz.underlying27 rfl sizeF) rfl (stepT_fin HI2.out HB2.out HBG.out.lt HB1.out.lt)
            · rw [setRow_other _ _ _ _ (by omega)]; exact setRow_heap _ _ _ _ _ _ HB2.out.g1
            · exact setRow_heap _ _ _ _ _ _ ((setRow_other _ _ _ _ (by omega)).trans HB2.out.g2)
    · refine step_load_row rfl 27 _ rfl (w1.heap.size + 1) (by simp [Act.eval]) 27 #[.int .i64 c, .int .i64 i] (0, 0) _ HX.out.2 Tryz.underlying27 rfl sizeF ?_
      refine hK _ _ ?_
      clear hK K
      refine wpAny_ready (rs := [0]) (by kernel_rfl) (by simp) ?_
      refine (AllReady.cons rfl (fun K hK => ?_) AllReady.nil)
      · refine step_load_row rfl 25 _ rfl w1.heap.size (by simp [Act.eval, Act.put]) 25 cs' (0, 0) _ HX.out.1 Tryz.underlying25 rfl (by rw [HS2.out]; exact sizeQ) ?_
        refine hK _ _ ?_
        clear hK K
        refine wpAny_ready (rs := [2]) (by kernel_rfl) (by simp) ?_
        refine (AllReady.cons rfl (fun K hK => ?_) AllReady.nil)
        · refine step_store_row rfl 25 _ _ rfl (w.heap.size + 1) cs' (by simp [Act.eval, Act.put]) (by simp [Act.eval, Act.put]) 25 zeroTs HB2.out.g1 (by rw [HS2.out]; exact sizeQ) (by rw [HS2.out]; rfl) (tsq_one HI2.out.st) ?_
          refine hK _ _ ?_
          clear hK K
          refine wpAny_ready (rs := [3]) (by kernel_rfl) (by simp) ?_
          refine (AllReady.cons rfl (fun K hK => ?_) AllReady.nil)
          · refine step_store_row rfl 27 _ _ rfl (w.heap.size + 2) #[.int .i64 c, .int .i64 i] (by simp [Act.eval, Act.put]) (by simp [Act.eval, Act.put]) 27 _ ((setRow_other _ _ _ _ (by omega)).trans HB2.out.g2) sizeF rfl (by kernel_rfl) ?_
            refine hK _ _ ?_
            clear hK K
            refine wpAny_done (by kernel_rfl) ?_ _
            go_wp2_with fail
            refine bodyPost_ret (results_two rfl _ _ (w.heap.size + 1) (w.heap.size + 2) 25 27 cs' #[.int .i64 c, .int .i64 i] (0, 0) (0, 0) _ _ rfl ?_ Tryz.underlying25 rfl (by rw [HS2.out]; exact sizeQ) rfl ?_ Tryz.underlying27 rfl sizeF) rfl (stepT_fin HI2.out HB2.out HBG.out.lt HB1.out.lt)
            · rw [setRow_other _ _ _ _ (by omega)]; exact setRow_heap _ _ _ _ _ _ HB2.out.g1
            · exact setRow_heap _ _ _ _ _ _ ((setRow_other _ _ _ _ (by omega)).trans HB2.out.g2)
end Go.Proofs.YtbaahbpianingaaGreatDoor
