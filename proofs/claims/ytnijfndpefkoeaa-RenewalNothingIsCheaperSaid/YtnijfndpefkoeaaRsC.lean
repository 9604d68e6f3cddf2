import Derived.Test.YtnijfndpefkoeaaRsA
import Derived.Test.YtnijfndpefkoeaaRenG
namespace Go.Proofs.Ytnijfndpefkoeaa
open Go Go.Proofs Go.RowKit
set_option maxHeartbeats 12800000
set_option maxRecDepth 100000
/-- The two columns of the specification's table. -/
def costL (ks : List (Int × Int)) (y : Nat) : List Int := (Ren.tabL ks y).map (·.1)
def countL (ks : List (Int × Int)) (y : Nat) : List Int := (Ren.tabL ks y).map (·.2)
theorem tabL_len (ks : List (Int × Int)) (y : Nat) : (Ren.tabL ks y).length = y + 1 := by unfold Ren.tabL; rw [List.length_map, List.length_range]
theorem costL_len (ks : List (Int × Int)) (y : Nat) : (costL ks y).length = y + 1 := by unfold costL; rw [List.length_map, tabL_len]
theorem countL_len (ks : List (Int × Int)) (y : Nat) : (countL ks y).length = y + 1 := by unfold countL; rw [List.length_map, tabL_len]
theorem costL_get (ks : List (Int × Int)) {y k : Nat} (h : k ≤ y) : (costL ks y)[k]? = some (Ren.bestAt ks k).2 := by unfold costL; rw [List.getElem?_map, Ren.tab_get ks h]; rfl
theorem countL_get (ks : List (Int × Int)) {y k : Nat} (h : k ≤ y) : (countL ks y)[k]? = some ((Ren.bestAt ks k).1.length : Int) := by unfold countL; rw [List.getElem?_map, Ren.tab_get ks h]; rfl
def scanL (ks : List (Int × Int)) (y i : Nat) : Int × Int := (List.range i).foldl (Ren.stepL ks (Ren.tabL ks y) ((y + 1 : Nat) : Int)) (-1, 0)
theorem scanL_zero (ks : List (Int × Int)) (y : Nat) : scanL ks y 0 = (-1, 0) := rfl
theorem scanL_succ {ks : List (Int × Int)} {y i : Nat} {p : Int × Int} (h : ks[i]? = some p) (hl : 1 ≤ p.1) :
    scanL ks y (i + 1) = if (scanL ks y i).1 < 0 ∨ (Ren.bestAt ks (Ren.backF y p.1)).2 + p.2 < (scanL ks y i).1 ∨ ((Ren.bestAt ks (Ren.backF y p.1)).2 + p.2 = (scanL ks y i).1 ∧ ((Ren.bestAt ks (Ren.backF y p.1)).1.length : Int) + 1 < (scanL ks y i).2)
      then ((Ren.bestAt ks (Ren.backF y p.1)).2 + p.2, ((Ren.bestAt ks (Ren.backF y p.1)).1.length : Int) + 1) else scanL ks y i := by
  have e1 : Ren.lifeOf ks (i : Int) = p.1 := by unfold Ren.lifeOf; rw [Int.toNat_natCast, h]; rfl
  have e2 : Ren.costOf ks (i : Int) = p.2 := by unfold Ren.costOf; rw [Int.toNat_natCast, h]; rfl
  have e3 : (max (((y + 1 : Nat) : Int) - p.1) 0).toNat = Ren.backF y p.1 := rfl
  have e4 := Ren.tab_get ks (y := y) (Ren.back_le (y := y) hl)
  unfold scanL
  rw [List.range_succ, List.foldl_append, List.foldl_cons, List.foldl_nil]
  generalize (List.range i).foldl (Ren.stepL ks (Ren.tabL ks y) ((y + 1 : Nat) : Int)) (-1, 0) = b
  unfold Ren.stepL
  rw [e1, e2, e3, e4]
  simp only [Option.getD_some]
theorem scanL_all {ks : List (Int × Int)} (ok : Ren.KOk ks) (hk : ks ≠ []) (y : Nat) : costL ks (y + 1) = costL ks y ++ [(scanL ks y ks.length).1] ∧ countL ks (y + 1) = countL ks y ++ [(scanL ks y ks.length).2] := by
  unfold costL countL
  rw [Ren.tab_succ ok hk y, List.map_append, List.map_append]
  exact ⟨rfl, rfl⟩
theorem scanL_bd {ks : List (Int × Int)} (kb : Ren.KBd ks) (y : Nat) (hy : y ≤ 1000) : ∀ i, i ≤ ks.length → (-1 ≤ (scanL ks y i).1 ∧ (scanL ks y i).1 ≤ 2000000000) ∧ (0 ≤ (scanL ks y i).2 ∧ (scanL ks y i).2 ≤ 2000)
  | 0, _ => by rw [scanL_zero]; exact ⟨⟨Int.le_refl _, by decide⟩, ⟨Int.le_refl _, by decide⟩⟩
  | i + 1, hi => by
    have ih := scanL_bd kb y hy i (by omega)
    obtain ⟨p, hp⟩ : ∃ p, ks[i]? = some p := ⟨_, List.getElem?_eq_getElem (by omega)⟩
    obtain ⟨l1, l2⟩ := kb.life i p hp
    obtain ⟨q1, q2⟩ := kb.cost i p hp
    have hs := Ren.best_small kb y _ (Ren.back_le (y := y) l1)
    have hb := Ren.back_le (y := y) l1
    have h1 := hs.len
    have h2 := hs.low
    have h3 := hs.top
    rw [scanL_succ hp l1]
    split
    · exact ⟨⟨by simp only; omega, by simp only; omega⟩, ⟨by simp only; omega, by simp only; omega⟩⟩
    · exact ih
theorem kok_ok {L : List (Int × Int)} (h : ∀ p ∈ L, okK p = true) : Ren.KOk L := by
  refine ⟨fun v h0 h1 => ?_, fun v h0 h1 => ?_⟩
  · obtain ⟨p, hp⟩ : ∃ p, L[v.toNat]? = some p := ⟨_, List.getElem?_eq_getElem (by omega)⟩
    unfold Ren.lifeOf
    rw [hp]
    exact (okK_iff.1 (h p (List.mem_of_getElem? hp))).1.1
  · obtain ⟨p, hp⟩ : ∃ p, L[v.toNat]? = some p := ⟨_, List.getElem?_eq_getElem (by omega)⟩
    unfold Ren.costOf
    rw [hp]
    exact (okK_iff.1 (h p (List.mem_of_getElem? hp))).2.1
/-- Two rows of the call's own, in two blocks. -/
structure TwoOwn (W : World) (B : Nat) (u v : Value) (K M : List Int) : Prop where
  a : KOwn W B u K
  b : KOwn W B v M
  ne : ∀ g, u.ownBlock = some g → v.ownBlock ≠ some g
theorem TwoOwn.ext {W W2 : World} {B : Nat} {u v : Value} {K M : List Int} (h : TwoOwn W B u v K M) (x : Ext W W2) : TwoOwn W2 B u v K M := ⟨h.a.ext x, h.b.ext x, h.ne⟩
theorem TwoOwn.swap {W : World} {B : Nat} {u v : Value} {K M : List Int} (h : TwoOwn W B u v K M) : TwoOwn W B v u M K := ⟨h.b, h.a, fun g q r => h.ne g r q⟩
theorem TwoOwn.left {W W2 : World} {B n : Nat} {u u' v : Value} {K M : List Int} {x : Int} (h : TwoOwn W B u v K M) (hn : K.length = n) (ho : W2.ownsRow B 3 1 u' (n + 1) (K.map (Value.int .i64) ++ [.int .i64 x])) (hg : W.grownBy W2 u.ownBlock) (ha : u'.ownBlock = u.ownBlock ∨ u'.ownBlock = some W.heap.size) :
    TwoOwn W2 B u' v (K ++ [x]) M := by
  refine ⟨?_, ?_, ?_⟩
  · unfold KOwn
    rw [List.length_append, List.length_singleton, List.map_append, hn]
    exact ho
  · exact own_keep h.b fun g hv => hg.block g (own_lt h.b hv).2 (fun q => h.ne g q.symm hv)
  · intro g hu hv
    rcases ha with e | e
    · exact h.ne g (e ▸ hu) hv
    · rw [e] at hu
      injection hu with hu
      have := (own_lt h.b hv).2
      omega
theorem TwoOwn.up {w W W2 : World} {B : Nat} {u v : Value} {K M : List Int} (h : TwoOwn W B u v K M) (x : Ext w W) (hB : w.heap.size ≤ B) (hg : W.grownBy W2 u.ownBlock) : Ext w W2 := ext_grown x hg (fun g q => by have := (own_lt h.a q).1; omega)
theorem two_zero (w : World) : TwoOwn ((w.alloc (.cells #[.int .i64 0] 3)).alloc (.cells #[.int .i64 0] 3)) w.heap.size (.slice (some ⟨w.heap.size, 0, none⟩) 1 1) (.slice (some ⟨w.heap.size + 1, 0, none⟩) 1 1) [0] [0] := by
  refine ⟨⟨rfl, .inr ⟨w.heap.size, 1, _, rfl, Nat.le_refl _, ext_heap ((Ext.refl (w.alloc (.cells #[.int .i64 0] 3))).alloc _) (heap_alloc_new w _), Nat.le_refl _, by unfold maxLen; omega, rfl, rfl⟩⟩, ⟨rfl, .inr ⟨w.heap.size + 1, 1, _, rfl, by omega, heap_new2 w _ _, Nat.le_refl _, by unfold maxLen; omega, rfl, rfl⟩⟩, fun g q r => ?_⟩
  injection q with q
  injection r with r
  have r2 : w.heap.size + 1 = g := r
  have q2 : w.heap.size = g := q
  omega
theorem kown_blk {W : World} {B : Nat} {v : Value} {K : List Int} (h : KOwn W B v K) (hn : 0 < K.length) : ∃ g cap, v = .slice (some ⟨g, 0, none⟩) K.length cap ∧ cap ≤ maxLen := by
  rcases h.2 with ⟨_, e⟩ | ⟨g, cap, cur, e, _, _, _, hm, _, _⟩
  · omega
  · exact ⟨g, cap, e, hm⟩
theorem kown_sl {W : World} {B : Nat} {A : Option Addr} {n c : Nat} {K : List Int} (h : KOwn W B (.slice A n c) K) : Sl W .i64 A K := by
  obtain ⟨A', c', e, _, _, _, hs⟩ := own_sl5 h
  injection e with e1 e2 e3
  rw [e1]
  exact hs
theorem Sl.at0 {W : World} {k : IntKind} {g : Nat} {K : List Int} (h : Sl W k (some ⟨g, 0, none⟩) K) {i : Nat} {x : Int} (hx : K[i]? = some x) : W.cell? ⟨g, i, none⟩ = some (.int k x) := by
  obtain ⟨a, e, hc⟩ := h.one hx
  injection e with e
  subst e
  rw [add_off, Nat.zero_add] at hc
  exact hc
/-- What LeastCosts returns. -/
def LeastRet (w : World) (ks : List (Int × Int)) (y : Nat) (e : Ending) (w' : World) : Prop :=
  ∃ g1 c g2 d, e = .returned (.tuple #[.slice (some ⟨g1, 0, none⟩) (y + 1) c, .slice (some ⟨g2, 0, none⟩) (y + 1) d]) ∧ TwoOwn w' w.heap.size (.slice (some ⟨g1, 0, none⟩) (y + 1) c) (.slice (some ⟨g2, 0, none⟩) (y + 1) d) (costL ks y) (countL ks y) ∧ Ext w w'
theorem Least_c (A : Option Addr) (L : List (Int × Int)) (c : Nat) (N : Nat) (w : World) (hl : L.length ≤ 8) (h1 : Prs w A L) (hok : ∀ p ∈ L, okK p = true) (hN : N ≤ 1000) (hne : 0 < N → L ≠ []) :
    Calls Try.prog 33 #[.slice A L.length c, .int .i64 (N : Int)] w (LeastRet w L N) := by
  have HKB := Lib.hid (kbd_ok hok)
  have HKO : Hid (Ren.KOk L) := Lib.hid (kok_ok hok)
  have H1 := Lib.hid h1
  have HNE := Lib.hid hne
  obtain ⟨n, hn⟩ : ∃ n, n = L.length := ⟨_, rfl⟩
  have HN := Lib.hid hn
  rw [← hn] at hl ⊢
  clear h1 hok hne hn
  go_enter Try.func33, Try.ntmps33
  have rb := run_buildSlice_i 0
  have HTZ := Lib.hid (two_zero w)
  go_upto_region 4 with (fail)
  go_loopw [6, 7, 8] (fun t6 t7 t8 wx => ∃ (y : Nat), t8 = .int .i64 ((y : Int) + 1) ∧ y ≤ N ∧ TwoOwn wx w.heap.size t6 t7 (costL L y) (countL L y) ∧ Ext w wx) (fun _ _ t8 _ => N + 1 - (intOf t8).toNat)
  case atStart => exact ⟨0, rfl, Nat.zero_le _, HTZ.out, ((Ext.refl w).alloc _).alloc _⟩
  case round =>
    obtain ⟨y, rfl, hyN, htw, hx⟩ := hrel
    have HTW := Lib.hid htw
    have HX := Lib.hid hx
    obtain ⟨g1, c1, rfl, _⟩ := kown_blk htw.a (by rw [costL_len]; omega)
    obtain ⟨g2, c2, rfl, _⟩ := kown_blk htw.b (by rw [countL_len]; omega)
    have hs1 := kown_sl htw.a
    have hs2 := kown_sl htw.b
    have HS1 : Hid (Sl wr .i64 (some ⟨g1, 0, none⟩) (costL L y)) := Lib.hid hs1
    have HS2 : Hid (Sl wr .i64 (some ⟨g2, 0, none⟩) (countL L y)) := Lib.hid hs2
    have HL1 := Lib.hid (costL_len L y)
    have HL2 := Lib.hid (countL_len L y)
    rw [HL1.out, HL2.out] at HTW ⊢
    clear htw hx hs1 hs2
    by_cases hyl : y < N
    · have HNL : Hid (L ≠ []) := Lib.hid (HNE.out (by omega))
      have hn0 : 0 < n := by
        rw [HN.out]
        cases hL : L with
        | nil => exact absurd hL HNL.out
        | cons _ _ => simp
      obtain ⟨wy, rfl⟩ : ∃ wy : World, wy = wr := ⟨_, rfl⟩
      have e0 : decide ((y : Int) + 1 ≤ (N : Int)) = true := decide_eq_true (by omega)
      go_upto_region 9 with (fail)
      go_loopw [9, 10, 11] (fun t9 t10 t11 wx => ∃ (i : Nat), t11 = .int .i64 (i : Int) ∧ i ≤ n ∧ t9 = .int .i64 (scanL L y i).1 ∧ t10 = .int .i64 (scanL L y i).2 ∧ Ext wy wx) (fun _ _ t11 _ => n - (intOf t11).toNat)
      case atStart => exact ⟨0, rfl, Nat.zero_le _, rfl, rfl, Ext.refl wy⟩
      case round =>
        obtain ⟨i, rfl, hin, rfl, rfl, hxi⟩ := hrel
        have HXI := Lib.hid hxi
        clear hxi
        have hbd := scanL_bd HKB.out y (by omega) i (by rw [← HN.out]; exact hin)
        by_cases hil : i < n
        · obtain ⟨m, hm⟩ : ∃ m, L[i]? = some m := ⟨_, List.getElem?_eq_getElem (by rw [← HN.out]; exact hil)⟩
          obtain ⟨l1, l2⟩ := HKB.out.life i m hm
          obtain ⟨q1, q2⟩ := HKB.out.cost i m hm
          have hst := scanL_succ (y := y) hm l1
          have hbk := Ren.back_le (y := y) l1
          have hsm := Ren.best_small HKB.out y _ hbk
          have hbi : ((Ren.backF y m.1 : Nat) : Int) = max ((y : Int) + 1 - m.1) 0 := by unfold Ren.backF; rw [Int.toNat_of_nonneg (by omega)]; rfl
          have hlen := hsm.len
          have hlow := hsm.low
          have htop := hsm.top
          obtain ⟨bb, o, rfl, m0, m1⟩ := (H1.out.ext (HX.out.trans HXI.out)).at_ hm
          have k1 := (HS1.out.ext HXI.out).at0 (costL_get L hbk)
          have k2 := (HS2.out.ext HXI.out).at0 (countL_get L hbk)
          obtain ⟨bk, hbke⟩ : ∃ bk, bk = Ren.backF y m.1 := ⟨_, rfl⟩
          obtain ⟨lf, co⟩ := m
          simp only at l1 l2 q1 q2 hst hbk hbi hbke hlen hlow htop m0 m1 k1 k2
          rw [← hbke] at hst hbk hbi hlen hlow htop k1 k2
          obtain ⟨bc, hbc⟩ : ∃ bc, bc = (Ren.bestAt L bk).2 := ⟨_, rfl⟩
          obtain ⟨bl, hbl⟩ : ∃ bl, bl = (Ren.bestAt L bk).1.length := ⟨_, rfl⟩
          rw [← hbc] at hst hlow htop k1
          rw [← hbl] at hst hlen k2
          obtain ⟨S, hS⟩ : ∃ S, S = scanL L y i := ⟨_, rfl⟩
          rw [← hS] at hst hbd ⊢
          obtain ⟨sc, sn⟩ := S
          have HST := Lib.hid hst
          have hc0 : 0 ≤ bc := hlow
          have hc1 : bc ≤ 1000000000 := by omega
          clear hbke hbc hbl hS hst hm hlow htop hsm
          obtain ⟨⟨s1, s2⟩, s3, s4⟩ := hbd
          simp only at s1 s2 s3 s4
          have wl : IntKind.i64.wrap ((y : Int) + 1 - lf) = (y : Int) + 1 - lf := IntWalk.i64_in _ (by omega)
          go_upto_region 11 with (fail)
          go_upto_if 36 with (fail)
          go_cut [12] (fun s12 wx => s12 = .int .i64 (bk : Int) ∧ wx = wr)
          case first =>
            by_cases hng : (y : Int) + 1 - lf < 0
            · have HE : Hid ((0 : Int) = (bk : Int)) := Lib.hid (by rw [hbi]; omega)
              clear hbi
              go_wp2
              go_meet
              exact ⟨by rw [← HE.out], rfl⟩
            · have HE : Hid ((y : Int) + 1 - lf = (bk : Int)) := Lib.hid (by rw [hbi]; omega)
              clear hbi
              go_wp2
              go_meet
              exact ⟨by rw [← HE.out], rfl⟩
          obtain ⟨rfl, hwx⟩ := hcut
          obtain ⟨wa, rfl⟩ : ∃ wa : World, wa = wc := ⟨_, rfl⟩
          rw [← hwx] at m0 m1 k1 k2 HXI
          clear hwx hbi wl
          have wc : IntKind.i64.wrap (bc + co) = bc + co := IntWalk.i64_in _ (by omega)
          have wn : IntKind.i64.wrap ((bl : Int) + 1) = (bl : Int) + 1 := IntWalk.i64_in _ (by omega)
          have bk0 : (0 : Int) ≤ (bk : Int) ∧ (bk : Int) < (y : Int) + 1 := by omega
          go_upto_region 14 with (fail)
          go_quiet (fail)
          go_upto_region 16 with (fail)
          have HXQ : Hid (∀ k, Ext wy (wa.drewN k)) := Lib.hid (fun k => HXI.out.drewN k)
          obtain ⟨nc, hnc⟩ : ∃ nc, nc = bc + co := ⟨_, rfl⟩
          obtain ⟨nn, hnn⟩ : ∃ nn, nn = (bl : Int) + 1 := ⟨_, rfl⟩
          rw [← hnc, ← hnn] at HST
          clear wc wn
          try rw [← hnc]
          try rw [← hnn]
          clear hnc hnn
          have wi : IntKind.i64.wrap ((i : Int) + 1) = (i : Int) + 1 := IntWalk.i64_in _ (by omega)
          by_cases d1 : sc < 0
          · have HTK : Hid (scanL L y (i + 1) = (nc, nn)) := Lib.hid (by rw [HST.out, if_pos (.inl d1)])
            have e1 : decide (sc < 0) = true := decide_eq_true d1
            clear d1
            clear HST
            go_wp2
            go_roundw
            case rel => exact ⟨i + 1, by go_num, hil, by rw [HTK.out], by rw [HTK.out], HXQ.out _⟩
            case measure => simp [intOf]; omega
          · by_cases d2 : nc < sc
            · have HTK : Hid (scanL L y (i + 1) = (nc, nn)) := Lib.hid (by rw [HST.out, if_pos (.inr (.inl d2))])
              have e1 : decide (sc < 0) = false := decide_eq_false d1
              have e2 : decide (nc < sc) = true := decide_eq_true d2
              clear d1 d2
              clear HST
              go_wp2
              go_roundw
              case rel => exact ⟨i + 1, by go_num, hil, by rw [HTK.out], by rw [HTK.out], HXQ.out _⟩
              case measure => simp [intOf]; omega
            · by_cases d3 : nc = sc
              · by_cases d4 : nn < sn
                · have HTK : Hid (scanL L y (i + 1) = (nc, nn)) := Lib.hid (by rw [HST.out, if_pos (.inr (.inr ⟨d3, d4⟩))])
                  have e1 : decide (sc < 0) = false := decide_eq_false d1
                  have e2 : decide (nc < sc) = false := decide_eq_false d2
                  have e3 : (nc == sc) = true := by simpa using d3
                  have e4 : decide (nn < sn) = true := decide_eq_true d4
                  clear d1 d2 d3 d4
                  clear HST
                  go_wp2
                  go_roundw
                  case rel => exact ⟨i + 1, by go_num, hil, by rw [HTK.out], by rw [HTK.out], HXQ.out _⟩
                  case measure => simp [intOf]; omega
                · have HTK : Hid (scanL L y (i + 1) = (sc, sn)) := Lib.hid (by rw [HST.out, if_neg (by simp only; omega)])
                  have e1 : decide (sc < 0) = false := decide_eq_false d1
                  have e2 : decide (nc < sc) = false := decide_eq_false d2
                  have e3 : (nc == sc) = true := by simpa using d3
                  have e4 : decide (nn < sn) = false := decide_eq_false d4
                  clear d1 d2 d3 d4
                  clear HST
                  go_wp2
                  go_roundw
                  case rel => exact ⟨i + 1, by go_num, hil, by rw [HTK.out], by rw [HTK.out], HXQ.out _⟩
                  case measure => simp [intOf]; omega
              · have HTK : Hid (scanL L y (i + 1) = (sc, sn)) := Lib.hid (by rw [HST.out, if_neg (by simp only; omega)])
                have e1 : decide (sc < 0) = false := decide_eq_false d1
                have e2 : decide (nc < sc) = false := decide_eq_false d2
                have e3 : (nc == sc) = false := by simpa using d3
                clear d1 d2 d3
                clear HST
                go_wp2
                go_roundw
                case rel => exact ⟨i + 1, by go_num, hil, by rw [HTK.out], by rw [HTK.out], HXQ.out _⟩
                case measure => simp [intOf]; omega
        · have hie : i = n := by omega
          have hsa := scanL_all HKO.out HNL.out y
          rw [← HN.out, ← hie] at hsa
          obtain ⟨S, hS⟩ : ∃ S, S = scanL L y i := ⟨_, rfl⟩
          rw [← hS] at hsa ⊢
          clear hS hbd hie
          obtain ⟨sc, sn⟩ := S
          have HSA := Lib.hid hsa
          simp only at HSA
          have rbs := run_buildSlice_i sc
          have rbn := run_buildSlice_i sn
          obtain ⟨ir, hi, hz0, hz1, hz2⟩ := info_parts infoI
          have HI := Lib.hid hi
          have HZ0 := Lib.hid hz0
          have HZ1 := Lib.hid hz1
          have HZ2 := Lib.hid hz2
          have HB1 : Hid (y + 1 + 1 ≤ maxLen) := Lib.hid (by unfold maxLen; omega)
          have HB2 : Hid ((y + 1 + 1) * 8 ≤ 140737488355328) := Lib.hid (by omega)
          have HT1 := Lib.hid (HTW.out.ext (HXI.out.alloc (.cells #[.int .i64 sc] 3)))
          have HXW := Lib.hid ((HX.out.trans HXI.out).alloc (.cells #[.int .i64 sc] 3))
          have HO1 := Lib.hid (show (wr.alloc (.cells #[.int .i64 sc] 3)).ownsRow w.heap.size 3 1 (.slice (some ⟨g1, 0, none⟩) (y + 1) c1) (y + 1) ((costL L y).map (Value.int .i64)) from by have := HT1.out.a; unfold KOwn at this; rw [HL1.out] at this; exact this)
          have HSZ : Hid (w.heap.size ≤ (wr.alloc (.cells #[.int .i64 sc] 3)).heap.size) := Lib.hid HXW.out.size
          clear hi hz0 hz1 hz2 hsa
          go_upto_region 20 with (at_builtin; refine wpList_append_sl rfl _ _ 29 rfl w.heap.size 3 ir _ 1 8 Try.underlying29 HI.out HZ0.out HZ1.out HZ2.out rfl (by decide) (.slice (some ⟨g1, 0, none⟩) (y + 1) c1) (y + 1) _ rfl HO1.out (some ⟨wr.heap.size, 0, none⟩) 1 1 [.int .i64 sc] rfl (slc_at rfl [.int .i64 sc]) rfl (by simp [Value.oneCell']) HB1.out HB2.out HSZ.out ?_; intro v5 w5 ho5 hg5 ha5; have HT5 := Lib.hid (HT1.out.left HL1.out ho5 hg5 ha5); have HX5 := Lib.hid (HT1.out.up HXW.out (Nat.le_refl _) hg5); clear ho5 hg5 ha5)
          have HT6 := Lib.hid ((HT5.out.ext ((Ext.refl w5).alloc (.cells #[.int .i64 sn] 3))).swap)
          have HXW6 := Lib.hid (HX5.out.alloc (.cells #[.int .i64 sn] 3))
          have HO6 := Lib.hid (show (w5.alloc (.cells #[.int .i64 sn] 3)).ownsRow w.heap.size 3 1 (.slice (some ⟨g2, 0, none⟩) (y + 1) c2) (y + 1) ((countL L y).map (Value.int .i64)) from by have := HT6.out.a; unfold KOwn at this; rw [HL2.out] at this; exact this)
          have HSZ6 : Hid (w.heap.size ≤ (w5.alloc (.cells #[.int .i64 sn] 3)).heap.size) := Lib.hid HXW6.out.size
          go_wp2_with (at_builtin; refine wpList_append_sl rfl _ _ 29 rfl w.heap.size 3 ir _ 1 8 Try.underlying29 HI.out HZ0.out HZ1.out HZ2.out rfl (by decide) (.slice (some ⟨g2, 0, none⟩) (y + 1) c2) (y + 1) _ rfl HO6.out (some ⟨w5.heap.size, 0, none⟩) 1 1 [.int .i64 sn] rfl (slc_at rfl [.int .i64 sn]) rfl (by simp [Value.oneCell']) HB1.out HB2.out HSZ6.out ?_; intro v7 w7 ho7 hg7 ha7; have HT7 := Lib.hid ((HT6.out.left HL2.out ho7 hg7 ha7).swap); have HX7 := Lib.hid (HT6.out.up HXW6.out (Nat.le_refl _) hg7); clear ho7 hg7 ha7)
          go_roundw
          case rel => exact ⟨y + 1, by go_num, hyl, by rw [HSA.out.1, HSA.out.2]; exact HT7.out, HX7.out⟩
          case measure => simp [intOf]; omega
    · have hye : y = N := by omega
      subst hye
      have HF : Hid (LeastRet w L y (.returned (.tuple #[.slice (some ⟨g1, 0, none⟩) (y + 1) c1, .slice (some ⟨g2, 0, none⟩) (y + 1) c2])) wr) := Lib.hid ⟨g1, c1, g2, c2, rfl, HTW.out, HX.out⟩
      go_wp2
      go_ret2
      exact HF.out
end Go.Proofs.Ytnijfndpefkoeaa
