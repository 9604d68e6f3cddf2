import Derived.Test.YtbaahbpianingaaGreatDoorMg14
import Derived.Test.YtbaahbpianingaaGreatDoorMg4
namespace Go.Proofs.YtbaahbpianingaaGreatDoor
open Go Go.Proofs Go.RowKit
open Tape (Rule Ts)
set_option maxHeartbeats 6400000
set_option maxRecDepth 100000
theorem dw_cut : ∀ (l : List Int) (k : Nat) (x : Int), (∀ i y, i < k → l[i]? = some y → y = 0) → l[k]? = some x → x ≠ 0 → l.dropWhile (· == 0) = l.drop k
  | [], k, x, _, h, _ => by simp at h
  | a :: l, 0, x, _, h, hx => by
    have e : a = x := by simpa using h
    subst e
    rw [List.dropWhile_cons_of_neg (by simpa using hx)]
    rfl
  | a :: l, k + 1, x, hz, h, hx => by
    have e : a = 0 := hz 0 a (by omega) rfl
    subst e
    rw [List.dropWhile_cons_of_pos (by decide), List.drop_succ_cons]
    exact dw_cut l k x (fun i y hi hy => hz (i + 1) y (by omega) (by simpa using hy)) (by simpa using h) hx
theorem inked_cut {l : List Int} {k t : Nat} {x y : Int} (hz : ∀ i v, i < k → l[i]? = some v → v = 0) (hx : l[k]? = some x) (hx0 : x ≠ 0) (hkt : k < t) (ht : t ≤ l.length) (hy : l[t - 1]? = some y) (hy0 : y ≠ 0)
    (hz2 : ∀ i v, t ≤ i → l[i]? = some v → v = 0) : Tape.inked l = (l.drop k).take (t - k) := by
  unfold Tape.inked
  rw [dw_cut l k x hz hx hx0]
  have hl : (l.drop k).length = l.length - k := List.length_drop
  rw [dw_cut (l.drop k).reverse (l.length - t) y ?_ ?_ hy0]
  · rw [List.drop_reverse, List.reverse_reverse, hl]
    congr 1
    omega
  · intro i v hi hv
    rw [List.getElem?_reverse (by omega), hl, List.getElem?_drop] at hv
    exact hz2 _ v (by omega) hv
  · rw [List.getElem?_reverse (by omega), hl, List.getElem?_drop, ← hy]
    congr 1
    omega
theorem inked_none {l : List Int} (h : ∀ v ∈ l, v = 0) : Tape.inked l = [] := by
  unfold Tape.inked
  have key : ∀ l : List Int, (∀ v ∈ l, v = 0) → l.dropWhile (· == 0) = [] := by
    intro l
    induction l with
    | nil => intro _; rfl
    | cons a l ih =>
      intro h
      rw [List.dropWhile_cons_of_pos (by simpa using h a (by simp))]
      exact ih (fun v hv => h v (List.mem_cons_of_mem _ hv))
  rw [key l h]; rfl
theorem idx_used (l : List Int) : (idxP usedB l = -1 ∧ ∀ v ∈ l, v = 0) ∨ ∃ k x, idxP usedB l = (k : Nat) ∧ l[k]? = some x ∧ x ≠ 0 ∧ ∀ i v, i < k → l[i]? = some v → v = 0 := by
  unfold idxP
  rcases hq : l.findIdx? usedB with _ | k
  · left
    refine ⟨rfl, fun v hv => ?_⟩
    rw [List.findIdx?_eq_none_iff] at hq
    have := hq v hv
    unfold usedB at this
    simpa using this
  · right
    rw [List.findIdx?_eq_some_iff_getElem] at hq
    obtain ⟨h1, h2, h3⟩ := hq
    refine ⟨k, l[k], rfl, List.getElem?_eq_getElem h1, ?_, fun i v hi hv => ?_⟩
    · unfold usedB at h2; simpa using h2
    · obtain ⟨hi2, rfl⟩ := List.getElem?_eq_some_iff.1 hv
      have := h3 i hi
      unfold usedB at this
      simpa using this
def tapeG (s : Ts) : List Int × (Int × Int) := if faultT s = (0, 0) then (Tape.inked s.cells, (0, 0)) else ([], faultT s)
def LRetT (w : World) (r : List Int × (Int × Int)) (e : Ending) (w' : World) : Prop :=
  ∃ v, e = .returned (.tuple #[v, fAgg r.2]) ∧ w'.ownsRow w.heap.size 3 1 v r.1.length (r.1.map (Value.int .i64)) ∧ Ext w w'
theorem lret_nil {w w' : World} {p : Int × Int} (hx : Ext w w') : LRetT w ([], p) (.returned (.tuple #[.slice none 0 0, fAgg p])) w' := ⟨_, rfl, ⟨rfl, .inl ⟨rfl, rfl⟩⟩, hx⟩
/-- The block of the state and that of the fault. -/
structure BoxT (w wx : World) (cs : Array Value) : Prop where
  g0 : wx.heap[w.heap.size]? = some (.cells cs 25 (0, 0))
  g1 : wx.heap[w.heap.size + 1]? = some (.cells #[.int .i64 0, .int .i64 0] 27 (0, 0))
  x : Ext w wx
theorem BoxT.ext {w wx w1 : World} {cs : Array Value} (h : BoxT w wx cs) (e : Ext wx w1) : BoxT w w1 cs := ⟨ext_heap e h.g0, ext_heap e h.g1, h.x.trans e⟩
theorem BoxT.lt {w wx : World} {cs : Array Value} (h : BoxT w wx cs) : w.heap.size + 1 < wx.heap.size := (Array.getElem?_eq_some_iff.1 h.g1).1
theorem boxT_mk (w : World) (cs : Array Value) : BoxT w ((w.alloc (.cells cs 25)).alloc (.cells #[.int .i64 0, .int .i64 0] 27)) cs := ⟨heap_alloc2_old w _ _, heap_alloc2_new w _ _, ((Ext.refl w).alloc _).alloc _⟩
theorem tape_bad (cs : Array Value) (s : Ts) (w : World) (h : TsIs w cs s) (hf : faultT s ≠ (0, 0)) : Calls Tryz.prog 6 #[.agg cs] w (LRetT w (tapeG s)) := by
  have he : tapeG s = ([], faultT s) := by unfold tapeG; rw [if_neg hf]
  rw [he]
  have HV := Lib.hid (fun (W : World) (hx : Ext w W) => Valid_t cs s W (h.ext hx))
  obtain ⟨p, hp⟩ : ∃ p, faultT s = p := ⟨_, rfl⟩
  obtain ⟨c, i⟩ := p
  have q1 : (c == 0) = false := by have := faultT_code hf; rw [hp] at this; simpa using this
  have q2 : ¬ c = 0 := by simpa using q1
  rw [hp] at HV ⊢
  have HS := Lib.hid h.size
  clear hp he hf h
  go_enter Tryz.func6, Tryz.ntmps6
  go_upto_region 0 with (fail)
  go_cut [1, 2, 3] (fun s1 s2 s3 wx => s1 = .pointer (some ⟨w.heap.size, 0, none⟩) ∧ s2 = .slice none 0 0 ∧ s3 = .pointer (some ⟨w.heap.size + 1, 0, none⟩) ∧ BoxT w wx cs)
  case first =>
    go_wp2_with fail
    go_meet
    exact ⟨rfl, rfl, by simp, boxT_mk w cs⟩
  obtain ⟨rfl, rfl, rfl, hbg⟩ := hcut
  have HG0 := Lib.hid hbg.g0
  have HBG := Lib.hid hbg
  clear hbg
  go_wp2_with (refine wpList_load_row rfl 25 _ rfl w.heap.size rfl 25 cs (0, 0) _ HG0.out Tryz.underlying25 rfl (by rw [HS.out]; exact sizeQ) ?_)
  refine (HV.out wc HBG.out.x).mono ?_
  rintro e w1 ⟨rfl, hx1⟩
  have HB1 := Lib.hid (HBG.out.ext hx1)
  have hb := Blk2.mk' HB1.out.g1
  obtain ⟨c0, c1, f0, f1⟩ := hb
  have hlt : w.heap.size + 1 < w1.heap.size := HB1.out.lt
  clear hx1
  simp only [fAgg]
  go_wp2
  go_region
  go_wp2
  refine bodyPost_ret (results_tc Tryz.results6 _ _ (w.heap.size + 1) 27 #[.int .i64 c, .int .i64 i] (0, 0) _ rfl (fblk_fin HB1.out.g1 _) Tryz.underlying27 rfl sizeF) rfl (lret_nil (Ext.drew (Ext.alloc (ext_set2 HB1.out.x (by omega) _ _) _)))
theorem slc_sub {w : World} {b o : Nat} {xs : List Value} (h : SlC w (some ⟨b, o, none⟩) xs) (k m : Nat) : SlC w (some ⟨b, o + k, none⟩) ((xs.drop k).take m) := by
  intro i u hu
  have hu' : xs[k + i]? = some u := by
    rw [List.getElem?_take] at hu
    split at hu
    · rw [List.getElem?_drop] at hu; exact hu
    · cases hu
  have := SlC.cell h hu'
  refine ⟨_, rfl, ?_⟩
  rw [add_off, Nat.add_assoc]
  exact this
theorem lret_nil2 {w w' : World} {l : List Int} {p : Int × Int} (h : l = []) (hx : Ext w w') : LRetT w (l, p) (.returned (.tuple #[.slice none 0 0, fAgg p])) w' := by rw [h]; exact lret_nil hx
theorem tape_good (cs : Array Value) (s : Ts) (w : World) (h : TsIs w cs s) (hf : faultT s = (0, 0)) : Calls Tryz.prog 6 #[.agg cs] w (LRetT w (tapeG s)) := by
  have he : tapeG s = (Tape.inked s.cells, (0, 0)) := by unfold tapeG; rw [if_pos hf]
  rw [he]
  have HV := Lib.hid (fun (W : World) (hx : Ext w W) => hf ▸ Valid_t cs s W (h.ext hx))
  obtain ⟨l, hl⟩ : ∃ l, l = s.cells := ⟨_, rfl⟩
  have hln : 1 ≤ l.length ∧ l.length ≤ 200 := by rw [hl]; exact (okt_of hf).1.len
  obtain ⟨A1, c1, e1, l1, m1, n1, s1⟩ := h.cells
  rw [← hl] at e1 l1 s1 ⊢
  have HS := Lib.hid h.size
  have HE1 := Lib.hid e1
  have HSL := Lib.hid s1
  have HLC := Lib.hid l1
  have hcl := Nat.le_trans l1 m1
  have HIX := Lib.hid (fun (W : World) (x : Ext w W) => IndexUsed_c A1 l c1 W hcl (s1.ext x))
  clear hf he h hl e1 s1 l1 hcl
  go_enter Tryz.func6, Tryz.ntmps6
  go_upto_region 0 with (fail)
  go_cut [1, 2, 3] (fun s1 s2 s3 wx => s1 = .pointer (some ⟨w.heap.size, 0, none⟩) ∧ s2 = .slice none 0 0 ∧ s3 = .pointer (some ⟨w.heap.size + 1, 0, none⟩) ∧ BoxT w wx cs)
  case first =>
    go_wp2_with fail
    go_meet
    exact ⟨rfl, rfl, by simp, boxT_mk w cs⟩
  obtain ⟨rfl, rfl, rfl, hbg⟩ := hcut
  have HG0 := Lib.hid hbg.g0
  have HBG := Lib.hid hbg
  clear hbg
  go_wp2_with (refine wpList_load_row rfl 25 _ rfl w.heap.size rfl 25 cs (0, 0) _ HG0.out Tryz.underlying25 rfl (by rw [HS.out]; exact sizeQ) ?_)
  refine (HV.out wc HBG.out.x).mono ?_
  rintro e w1 ⟨rfl, hx1⟩
  have HB1 := Lib.hid (HBG.out.ext hx1)
  clear hx1
  simp only [fAgg]
  go_upto_region 5 with (fail)
  obtain ⟨wa, hwa⟩ : ∃ wa : World, wa = w1.alloc (.cells #[.int .i64 0, .int .i64 0] 27) := ⟨_, rfl⟩
  rw [← hwa]
  have HBA : Hid (BoxT w wa cs) := Lib.hid (by rw [hwa]; exact HB1.out.ext ((Ext.refl w1).alloc _))
  clear hwa
  have y1 : wa.cell? ⟨w.heap.size, 1, none⟩ = some (.slice A1 l.length c1) := (blk_cell HBA.out.g0 1).trans HE1.out
  have hlt := HBA.out.lt
  obtain ⟨n, hn⟩ : ∃ n, n = l.length := ⟨_, rfl⟩
  have HN := Lib.hid hn
  rw [← hn] at y1 hln HIX
  clear hn
  have hb := Blk2.mk' HBA.out.g1
  obtain ⟨z0, z1, f0, f1⟩ := hb
  rcases idx_used l with ⟨hi, hz⟩ | ⟨k, x, hi, hx, hx0, hzk⟩
  · have HK : Hid (Tape.inked l = []) := Lib.hid (inked_none hz)
    rw [hi] at HIX
    clear hi hz
    go_wp2_with (go_at_call 28; refine (HIX.out _ HBA.out.x).mono ?_; rintro e w' ⟨rfl, rfl⟩)
    refine bodyPost_ret (results_tc Tryz.results6 _ _ (w.heap.size + 1) 27 #[.int .i64 0, .int .i64 0] (0, 0) _ rfl (fblk_set HBA.out.g1) Tryz.underlying27 rfl sizeF) rfl (lret_nil2 HK.out (ext_set2 (g := w.heap.size + 1) HBA.out.x (by omega) _ _))
  rw [hi] at HIX
  obtain ⟨hkn, hkx⟩ := List.getElem?_eq_some_iff.1 hx
  have hkn2 : k < n := by rw [HN.out]; exact hkn
  have HX := Lib.hid hx
  have HX0 := Lib.hid hx0
  have HZK := Lib.hid hzk
  have hnc : n ≤ c1 := by rw [HN.out]; exact HLC.out
  obtain ⟨b, o, x', rfl, hx', -⟩ := (HSL.out.ext (Ext.refl w)).at2 hkn
  unfold maxLen at m1
  clear hi hx hx0 hzk hkn hkx hx'
  go_upto_region 8 with (go_at_call 28; refine (HIX.out _ HBA.out.x).mono ?_; rintro e w' ⟨rfl, rfl⟩)
  go_wp2
  go_loop [7] (fun i => ∃ t : Nat, k < t ∧ t ≤ n ∧ i = .int .i64 t ∧ Hid (∀ j v, t ≤ j → l[j]? = some v → v = 0)) (fun i => (intOf i).toNat)
  case atStart => exact ⟨n, hkn2, Nat.le_refl _, rfl, Lib.hid (fun j v hj hv => by rw [HN.out] at hj; rw [List.getElem?_eq_none hj] at hv; cases hv)⟩
  case round =>
    obtain ⟨t, hkt, htn, rfl, hz⟩ := hrel
    obtain ⟨j, rfl⟩ : ∃ j, t = j + 1 := ⟨t - 1, by omega⟩
    obtain ⟨b2, o2, y, he2, hy, hya⟩ := (HSL.out.ext HBA.out.x).at2 (i := j) (by rw [← HN.out]; omega)
    injection he2 with he2
    injection he2 with he2 he3
    subst he2 he3
    have htc : (((j + 1 : Nat) : Int) - 1) = (j : Int) := by omega
    have hjn : j < n := by omega
    have HZ := Lib.hid hz.out
    have HY := Lib.hid hy.out
    clear hz hy
    by_cases hy0 : y = 0
    · have hu : usedB y = false := by rw [hy0]; rfl
      have HNX : Hid (k < j ∧ ∀ i v, j ≤ i → l[i]? = some v → v = 0) := Lib.hid (by
        subst hy0
        refine ⟨?_, fun i v hi hv => ?_⟩
        · rcases Nat.lt_or_ge k j with q | q
          · exact q
          · have : k = j := by omega
            subst this
            have h1 := HX.out
            rw [HY.out] at h1
            injection h1 with h1
            exact absurd h1.symm HX0.out
        · by_cases e : i = j
          · subst e; rw [HY.out] at hv; injection hv with hv; exact hv.symm
          · exact HZ.out i v (by omega) hv)
      clear hy0
      go_wp2_with (go_at_call 27; refine (tape1_c _ _).mono ?_; rintro e w' ⟨rfl, rfl⟩; rw [hu])
      go_round
      case rel => exact ⟨j, HNX.out.1, by omega, by go_num, Lib.hid HNX.out.2⟩
      case measure => simp [intOf]
    · have hu : usedB y = true := by unfold usedB; simp [hy0]
      have HIK : Hid (Tape.inked l = (l.drop k).take (j + 1 - k)) := Lib.hid (inked_cut HZK.out HX.out HX0.out hkt (by rw [← HN.out]; exact htn) (by rw [Nat.add_sub_cancel]; exact HY.out) hy0 HZ.out)
      have hll : ((l.drop k).take (j + 1 - k)).length = j + 1 - k := by rw [List.length_take, List.length_drop, ← HN.out]; omega
      have HCL : Hid (∀ W : World, Ext w W → Calls Tryz.prog 29 #[.slice (some ⟨b, o + k, none⟩) (j + 1 - k) (c1 - k)] W (CloneAt W 3 1 (j + 1 - k) (((l.drop k).take (j + 1 - k)).map (Value.int .i64)))) := Lib.hid (fun W x => by
        have h1 := CloneI_c (some ⟨b, o + k, none⟩) ((l.drop k).take (j + 1 - k)) (c1 - k) W (by rw [hll]; omega) (by rw [List.map_take, List.map_drop]; exact slc_sub (HSL.out.ext x) k _) (fun q => by cases q)
        rw [hll] at h1
        exact h1)
      have HLL := Lib.hid hll
      have hkc : k ≤ c1 := by omega
      have hjc : j + 1 ≤ c1 := by omega
      clear hy0 hll z0 z1 f0 f1
      go_wp2_with (first | (go_at_call 27; refine (tape1_c _ _).mono ?_; rintro e w' ⟨rfl, rfl⟩; rw [hu]) | (go_at_call 29; refine (HCL.out _ HBA.out.x).mono ?_; rintro e w2 ⟨v, rfl, ho, hx2⟩; obtain ⟨z0, z1, f0, f1⟩ := Blk2.mk' (HBA.out.ext hx2).g1; have hlt2 := (HBA.out.ext hx2).lt; have HO := Lib.hid ho; have HX2 := Lib.hid hx2; clear ho hx2))
      refine bodyPost_ret (results_tc Tryz.results6 _ _ (w.heap.size + 1) 27 #[.int .i64 0, .int .i64 0] (0, 0) _ rfl (fblk_set (HBA.out.ext HX2.out).g1) Tryz.underlying27 rfl sizeF) rfl ⟨v, rfl, ?_, ext_set2 (g := w.heap.size + 1) (HBA.out.x.trans HX2.out) (by omega) _ _⟩
      show World.ownsRow _ _ _ _ _ (Tape.inked l).length ((Tape.inked l).map _)
      rw [HIK.out, HLL.out]
      exact town_base (own_setLow (own_setLow HO.out (by omega) _) (by omega) _) (by omega)
theorem tape_all (cs : Array Value) (s : Ts) (w : World) (h : TsIs w cs s) : Calls Tryz.prog 6 #[.agg cs] w (LRetT w (tapeG s)) := by
  by_cases hf : faultT s = (0, 0)
  · exact tape_good cs s w h hf
  · exact tape_bad cs s w h hf
end Go.Proofs.YtbaahbpianingaaGreatDoor
