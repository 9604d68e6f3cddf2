import Derived.Test.YtbhcaniopdgjkaaMg18
import Derived.Deep.DeepCutAuto
namespace Go.Proofs.Ytbhcaniopdgjkaa
open Go Go.Proofs Go.RowKit
open Plain (SiteD)
set_option maxHeartbeats 1000000
set_option maxRecDepth 100000
/-- A list, a number and a fault are returned. -/
def WRet (w : World) (l : List Int) (n : Int) (f : Int × Int) (e : Ending) (w' : World) : Prop := ∃ v, e = .returned (.tuple #[v, .int .i64 n, .agg #[.int .i64 f.1, .int .i64 f.2]]) ∧ w'.ownsRow w.heap.size 3 1 v l.length (l.map (Value.int .i64)) ∧ Ext w w'
theorem w_res {fn : Func} {p u t : Tmp} (h : fn.results = #[.tmp u, .tmp t, .cell p 25]) (tmps : Array Value) (w : World) (g : Nat) (f : Int × Int) (v v2 : Value) (hu : tmps.getD u undef = v) (ht : tmps.getD t undef = v2) (hp : tmps.getD p undef = .pointer (some ⟨g, 0, none⟩)) (hb : FBlk w g f) :
    (results fn tmps).run Try.prog w = .ok (.tuple #[v, v2, .agg #[.int .i64 f.1, .int .i64 f.2]]) w := by
  have hp' : tmps[p]?.getD undef = .pointer (some ⟨g, 0, none⟩) := by simpa using hp
  have hu' : tmps[u]?.getD undef = v := by simpa using hu
  have ht' : tmps[t]?.getD undef = v2 := by simpa using ht
  have h0 := hb.c0
  have h1 := hb.c1
  simp [results, h, hp', hu', ht', go_sem, h0, h1]
def worstFault (L : List SiteD) (ch : List Int) (count : Int) : Int × Int :=
  if Plain.chosenF L ch ≠ (0, 0) then Plain.chosenF L ch else if count < 0 ∨ 12 < count then (4, -3) else (0, 0)
/-- What Worst finds. -/
def worstP (L : List SiteD) (ch : List Int) (cnt : Nat) : List Int × Int := visS L ch cnt (Plain.zonesF L) [] (List.replicate cnt 0, (ch.length : Int) + 1)
def worstR (L : List SiteD) (ch : List Int) (count : Int) : List Int × Int :=
  if worstFault L ch count = (0, 0) then worstP L ch (min count.toNat (Plain.zonesF L).length) else ([], 0)
/-- The three blocks that Worst makes first. -/
def w3 (w : World) (A C : Option Addr) (n1 c1 n2 c2 : Nat) : World := ((w.alloc (.cells #[.slice A n1 c1] 22)).alloc (.cells #[.slice C n2 c2] 23)).alloc (.cells #[.int .i64 0, .int .i64 0] 25)
theorem Ext.set2at {w w1 : World} (e : Ext w w1) {g : Nat} (hg : w.heap.size ≤ g) (a b : Value) : Ext w ((w1.setCell ⟨g, 0, none⟩ a).setCell ⟨g, 1, none⟩ b) := (e.setCell (p := ⟨g, 0, none⟩) hg _).setCell (p := ⟨g, 1, none⟩) hg _
theorem drew_heap (w : World) : w.drew.heap = w.heap := rfl
theorem own_cap {w : World} {base : Nat} {R : Option Addr} {l : List Int} {c : Nat} (h : w.ownsRow base 3 1 (.slice R l.length c) l.length (l.map (Value.int .i64))) : l.length ≤ c := by
  obtain ⟨A, c', e, h1, _⟩ := own_sl h
  cases e
  exact h1
theorem slk_own {w2 wc : World} {base gw bf : Nat} {R : Option Addr} {l : List Int} {c : Nat} (h : w2.ownsRow base 3 1 (.slice R l.length c) l.length (l.map (Value.int .i64))) (x : Ext w2 wc) (h1 : w2.heap.size ≤ gw) (h2 : w2.heap.size ≤ bf) : SlK2 wc gw bf R l := by
  obtain ⟨A, c', e, _, _, _, hs⟩ := own_sl h
  cases e
  intro i v hi
  have hsl : Sl w2 .i64 R l := hs
  obtain ⟨b, o, y, e1, e2, e3⟩ := hsl.at2 (List.getElem?_eq_some_iff.1 hi).1
  have hy : y = v := by have := e2.out; rw [hi] at this; injection this with this; exact this.symm
  subst hy
  have := World.block_lt_of_cell? w2 _ e3
  simp only at this
  exact ⟨b, o, e1, by omega, by omega, x.cell e3⟩
theorem post_keep {wc wp : World} {gw bf cnt : Nat} {S : List Int × Int} (h : Post wc wp gw bf cnt S) {b : Nat} {o : Obj} (hb : wc.heap[b]? = some o) (h1 : b ≠ gw) (h2 : b ≠ bf) : wp.heap[b]? = some o := by
  rw [h.keep b (blk_lt hb) h1 h2]; exact hb
theorem post_fblk {wc wp : World} {gw bf cnt : Nat} {S : List Int × Int} (h : Post wc wp gw bf cnt S) {b : Nat} {f : Int × Int} (hb : FBlk wc b f) (h1 : b ≠ gw) (h2 : b ≠ bf) : FBlk wp b f := post_keep h hb h1 h2
theorem post_ext {w wc wp : World} {gw bf cnt : Nat} {S : List Int × Int} (h : Post wc wp gw bf cnt S) (x : Ext w wc) (h1 : w.heap.size ≤ gw) (h2 : w.heap.size ≤ bf) : Ext w wp := by
  refine ⟨h.os.trans x.os, h.tape.trans x.tape, h.output.trans x.output, Nat.le_trans x.size h.size, fun b hb => ?_⟩
  rw [h.keep b (Nat.lt_of_lt_of_le hb x.size) (by omega) (by omega)]
  exact x.block b hb
theorem worst_end {w wc wp : World} {gw bf cnt g : Nat} {S : List Int × Int} (h : Post wc wp gw bf cnt S) (x : Ext w wc) (h1 : w.heap.size ≤ gw) (h2 : w.heap.size ≤ bf) (h3 : g ≠ gw) (h4 : w.heap.size ≤ g) (h5 : cnt ≤ 12) (a b : Value) :
    (((wp.setCell ⟨g, 0, none⟩ a).setCell ⟨g, 1, none⟩ b).drew.ownsRow w.heap.size 3 1 (.slice (some ⟨gw, 0, none⟩) cnt cnt) S.1.length (S.1.map (Value.int .i64))) ∧ Ext w ((wp.setCell ⟨g, 0, none⟩ a).setCell ⟨g, 1, none⟩ b).drew := by
  refine ⟨⟨by simp, .inr ⟨gw, cnt, (S.1.map (Value.int .i64)).toArray, by rw [h.worl], h1, ?_, by rw [h.worl]; exact Nat.le_refl _, ?_, ?_, ?_⟩⟩, ((post_ext h x h1 h2).set2at h4 _ _).drew⟩
  · show ((wp.setCell ⟨g, 0, none⟩ a).setCell ⟨g, 1, none⟩ b).heap[gw]? = _
    rw [Below.heap_setCell _ _ _ _ (Ne.symm h3), Below.heap_setCell _ _ _ _ (Ne.symm h3)]
    exact h.wor
  · unfold maxLen; omega
  · simp [h.worl]
  · rw [Nat.mul_one, List.take_of_length_le (by simp)]
theorem Worst_c (A C : Option Addr) (L : List SiteD) (ch : List Int) (c1 c2 : Nat) (count : Int) (w : World) (hL : L.length ≤ c1) (hc : ch.length ≤ maxLen) (h1 : Sites w A L) (hg : Glob w) (h2 : Sl w .i64 C ch) :
    Calls Try.prog 27 #[.slice A L.length c1, .slice C ch.length c2, .int .i64 count] w (WRet w (worstR L ch count).1 (worstR L ch count).2 (worstFault L ch count)) := by
  have HX0 : Hid (Ext w (w3 w A C L.length c1 ch.length c2)) := (((Ext.refl w).alloc _).alloc _).alloc _
  have HV := Lib.hid (check_c A C L ch c1 c2 (w3 w A C L.length c1 ch.length c2) hc (fun w1 x => Validate_c A L c1 w1 hL ((h1.ext HX0.out).ext x) ((hg.ext HX0.out).ext x)) (h2.ext HX0.out))
  have HB0 : Hid (FBlk (w3 w A C L.length c1 ch.length c2) (w.heap.size + 1 + 1) (0, 0)) := by
    show _ = _
    unfold w3
    simp only [alloc_heap, alloc_size]
    rw [if_pos trivial]
  have HB1 : Hid ((w3 w A C L.length c1 ch.length c2).heap[w.heap.size]? = some (.cells #[.slice A L.length c1] 22 (0, 0))) := by
    show _ = _
    unfold w3
    simp only [alloc_heap, alloc_size]
    rw [if_neg (by omega), if_neg (by omega), if_pos trivial]
  have HB2 : Hid ((w3 w A C L.length c1 ch.length c2).heap[w.heap.size + 1]? = some (.cells #[.slice C ch.length c2] 23 (0, 0))) := by
    show _ = _
    unfold w3
    simp only [alloc_heap, alloc_size]
    rw [if_neg (by omega), if_pos trivial]
  have hs3 : w.heap.size + 3 = (w3 w A C L.length c1 ch.length c2).heap.size := by unfold w3; simp
  obtain ⟨⟨f1, f2⟩, hf⟩ : ∃ f, Plain.chosenF L ch = f := ⟨_, rfl⟩
  rw [hf] at HV
  have HF := Lib.hid hf
  have HH1 := Lib.hid h1
  have HH2 := Lib.hid h2
  unfold w3 at HV
  clear hf h1 h2 hg
  by_cases g1 : f1 = 0
  · have HC0 := Lib.hid (chosenF_code L ch (by rw [HF.out]; exact g1))
    have h2' : f2 = 0 := by
      have := HC0.out
      rw [HF.out] at this
      injection this
    subst g1
    subst h2'
    obtain ⟨o1, o2⟩ := chosenF_ok HC0.out
    have o3 := sitesF_len o1
    have o4 := rising_len o2
    have HO2 := Lib.hid o2
    have HZ := Lib.hid (fun w1 (x : Ext w w1) => zones_c A L c1 w1 (HH1.out.ext x) o1)
    clear o1 o2
    by_cases g2 : count < 0 ∨ 12 < count
    · have HE : Hid (worstFault L ch count = (4, -3)) := by
        show _ = _
        unfold worstFault; rw [HF.out, if_neg (by simp), if_pos g2]
      have HE2 : Hid (worstR L ch count = ([], 0)) := by
        show _ = _
        unfold worstR; rw [if_neg (by rw [HE.out]; simp)]
      rw [HE.out, HE2.out]
      have HG2 := Lib.hid g2
      clear g2
      by_cases g3 : count < 0
      · go_enter Try.func27, Try.ntmps27
        go_wp2_with (first | (go_at_call 45; refine HV.out.mono ?_; rintro e w1 ⟨rfl, hx⟩; have hb := HB0.out.ext hx; have z0 := hb.c0; have z1 := hb.c1; have y0 := hb.z 0; have y1 := hb.z 1; have HX := Lib.hid (HX0.out.trans hx); have HB := Lib.hid hb; have hlt : w.heap.size + 1 + 1 < w1.heap.size := blk_lt hb; have hle1 : w.heap.size + 1 < w1.heap.size := Nat.lt_of_succ_lt hlt; have hle2 : w.heap.size < w1.heap.size := Nat.lt_of_succ_lt (Nat.lt_of_succ_lt hlt); clear hb hx) | (go_at_call 47; refine (fault_c _ _ _).mono ?_; rintro e w3 ⟨rfl, rfl⟩))
        refine bodyPost_ret (v := .tuple #[.slice none 0 0, .int .i64 0, .agg #[.int .i64 4, .int .i64 (-3)]]) (w_res Try.results27 _ _ (w.heap.size + 1 + 1) (_, _) _ _ rfl rfl rfl ?_) rfl ⟨_, rfl, nil_owns _ _ _, ?_⟩
        · exact ((HB.out.set _ _).alloc _).alloc _
        · exact ((HX.out.set2at (by omega) _ _).alloc _).alloc _
      · have g4 : 12 < count := by have := HG2.out; omega
        go_enter Try.func27, Try.ntmps27
        go_wp2_with (first | (go_at_call 45; refine HV.out.mono ?_; rintro e w1 ⟨rfl, hx⟩; have hb := HB0.out.ext hx; have z0 := hb.c0; have z1 := hb.c1; have y0 := hb.z 0; have y1 := hb.z 1; have HX := Lib.hid (HX0.out.trans hx); have HB := Lib.hid hb; have hlt : w.heap.size + 1 + 1 < w1.heap.size := blk_lt hb; have hle1 : w.heap.size + 1 < w1.heap.size := Nat.lt_of_succ_lt hlt; have hle2 : w.heap.size < w1.heap.size := Nat.lt_of_succ_lt (Nat.lt_of_succ_lt hlt); clear hb hx) | (go_at_call 47; refine (fault_c _ _ _).mono ?_; rintro e w3 ⟨rfl, rfl⟩))
        refine bodyPost_ret (v := .tuple #[.slice none 0 0, .int .i64 0, .agg #[.int .i64 4, .int .i64 (-3)]]) (w_res Try.results27 _ _ (w.heap.size + 1 + 1) (_, _) _ _ rfl rfl rfl ?_) rfl ⟨_, rfl, nil_owns _ _ _, ?_⟩
        · exact ((HB.out.set _ _).alloc _).alloc _
        · exact ((HX.out.set2at (by omega) _ _).alloc _).alloc _
    · have HE : Hid (worstFault L ch count = (0, 0)) := by
        show _ = _
        unfold worstFault; rw [HF.out, if_neg (by simp), if_neg g2]
      have HE2 : Hid (worstR L ch count = worstP L ch (min count.toNat (Plain.zonesF L).length)) := by
        show _ = _
        unfold worstR; rw [if_pos HE.out]
      rw [HE.out, HE2.out]
      obtain ⟨K, rfl⟩ : ∃ K : Nat, count = K := ⟨count.toNat, by omega⟩
      have hK : K ≤ 12 := by omega
      rw [Int.toNat_natCast] at *
      obtain ⟨Zs, hZs⟩ : ∃ Zs, Plain.zonesF L = Zs := ⟨_, rfl⟩
      unfold worstP
      rw [hZs] at HZ ⊢
      have hg3 : ¬ (K : Int) < 0 := by omega
      have hg4 : ¬ (12 : Int) < (K : Int) := by omega
      clear g2
      have hzl : Zs.length ≤ 12 := by
        rw [← hZs]
        exact zonesTo_len L 12
      obtain ⟨cnt, hcnt⟩ : ∃ cnt, cnt = min K Zs.length := ⟨_, rfl⟩
      rw [← hcnt]
      go_enter Try.func27, Try.ntmps27
      go_upto_region 8 with (first | (go_at_call 45; refine HV.out.mono ?_; rintro e w1 ⟨rfl, hx⟩; have hb := HB0.out.ext hx; have hb1 := ext_blk hx HB1.out; have hb2 := ext_blk hx HB2.out; have z0 := hb.c0; have z1 := hb.c1; have y0 := hb.z 0; have y1 := hb.z 1; have x1 : w1.cell? ⟨w.heap.size, 0, none⟩ = some (.slice A L.length c1) := blk_cell hb1 0; have x2 : w1.cell? ⟨w.heap.size + 1, 0, none⟩ = some (.slice C ch.length c2) := blk_cell hb2 0; have hlt1 : w.heap.size < w1.heap.size := blk_lt hb1; have hlt2 : w.heap.size + 1 < w1.heap.size := blk_lt hb2; have HX := Lib.hid (HX0.out.trans hx); have HB := Lib.hid hb; have HBB1 := Lib.hid hb1; have HBB2 := Lib.hid hb2; have hlt : w.heap.size + 1 + 1 < w1.heap.size := blk_lt hb; have hle1 : w.heap.size + 1 < w1.heap.size := Nat.lt_of_succ_lt hlt; have hle2 : w.heap.size < w1.heap.size := Nat.lt_of_succ_lt (Nat.lt_of_succ_lt hlt); clear hb hx hb1 hb2) | (go_at_call 49; refine (HZ.out _ (HX.out.alloc _)).mono ?_; rintro e w2 ⟨v2, rfl, ho2, hx2⟩; have HX2 := Lib.hid hx2; have HXW := Lib.hid ((HX.out.alloc _).trans hx2); have HO2' := Lib.hid ho2; obtain ⟨R, rc, rfl, _, _, _, _⟩ := own_sl ho2; clear ho2 hx2))
      have hci : (min (K : Int) (Zs.length : Int)) = (cnt : Int) := by omega
      rw [hci]
      have hc12 : cnt ≤ 12 := by omega
      clear hci hcnt
      have hmk := fun w' : World => make_run w' cnt (by omega)
      have hxa := ((Ext.refl w1).alloc (.cells #[.int .i64 0, .int .i64 0] 25)).trans HX2.out
      have HBX1 := Lib.hid (ext_blk hxa HBB1.out)
      have HBX2 := Lib.hid (ext_blk hxa HBB2.out)
      have HBX := Lib.hid (HB.out.ext hxa)
      have v2 : w2.cell? ⟨w.heap.size + 1, 0, none⟩ = some (.slice C ch.length c2) := blk_cell HBX2.out 0
      have t1 : w.heap.size + 1 + 1 < w2.heap.size := blk_lt HBX.out
      have t2 : w.heap.size + 1 < w2.heap.size := by omega
      have t3 : w.heap.size < w2.heap.size := by omega
      have t4 : w.heap.size < w2.heap.size + 1 := by omega
      have hwr : IntKind.i64.wrap ((ch.length : Int) + 1) = (ch.length : Int) + 1 := IntWalk.i64_in _ (by omega)
      clear hxa
      go_cut [11, 12, 34] (fun s11 s12 s34 wx => ∃ gw bf bw, s34 = .slice (some ⟨gw, 0, none⟩) cnt cnt ∧ s11 = .pointer (some ⟨bw, 0, none⟩) ∧ s12 = .pointer (some ⟨bf, 0, none⟩) ∧ Ext w2 wx ∧ w2.heap.size ≤ gw ∧ w2.heap.size ≤ bf ∧ w2.heap.size ≤ bw ∧ gw ≠ bf ∧ gw ≠ bw ∧ bf ≠ bw ∧ wx.heap[gw]? = some (.cells (mkRow cnt) 3 (0, 0)) ∧ wx.heap[bf]? = some (.cells #[.int .i64 ((ch.length : Int) + 1)] 3 (0, 0)) ∧ wx.heap[bw]? = some (.cells #[.slice (some ⟨gw, 0, none⟩) cnt cnt] 23 (0, 0)))
      case first =>
        go_region_held3 (fun w' => w'.cell? ⟨w.heap.size + 1, 0, none⟩ = some (.slice C ch.length c2)) (simp (maxDischargeDepth := 9) [*, World.cell?_alloc_some]) (fail)
        all_goals go_wp2_with fail
        all_goals go_meet
        all_goals refine ⟨_, _, _, rfl, rfl, rfl, ?_, ?_, ?_, ?_, ?_, ?_, ?_, ?_, ?_, ?_⟩
        all_goals first | omega | (simp only [drew_heap, alloc_heap, alloc_size]; repeat (first | rw [if_pos trivial] | rw [if_pos rfl] | rw [if_neg (by omega)])) | (repeat (first | exact Ext.refl _ | refine Ext.drew ?_ | refine Ext.alloc ?_ _))
      case rest =>
        clear v2 t4 hmk
        obtain ⟨gw, bf, bw, rfl, rfl, rfl, e1, e2, e3, e4, e5, e6, e7, e8, e9, e10⟩ := hcut
        have HPRE : Hid (Pre w wc gw bf cnt w.heap.size (w.heap.size + 1) bw A C L ch c1 c2 (List.replicate cnt 0, (ch.length : Int) + 1)) :=
          ⟨hc12, HXW.out.trans e1, by omega, by omega, e5, blk_cell (ext_blk e1 HBX1.out) 0, blk_cell (ext_blk e1 HBX2.out) 0, blk_cell e10 0, ⟨by omega, by omega⟩, ⟨by omega, by omega⟩, ⟨by omega, by omega⟩, e8, by simp, e9, HH1.out, HH2.out, o3, by omega, (Plain.risingC_iff.1 HO2.out).2⟩
        have HCH := Lib.hid (choices_c w wc gw bf cnt _ _ bw A C L ch c1 c2 _ HPRE.out R Zs rc (slk_own HO2'.out e1 e2 e3) (own_cap HO2'.out) (by omega))
        have HFB := Lib.hid (HBX.out.ext e1)
        have HXC := Lib.hid (HXW.out.trans e1)
        have HBW := Lib.hid e10
        have n1 : w.heap.size + 1 + 1 ≠ gw := by omega
        have n2 : w.heap.size + 1 + 1 ≠ bf := by omega
        have n3 : bw ≠ gw := by omega
        have n4 : bw ≠ bf := by omega
        have n5 : w.heap.size ≤ gw := by omega
        have n6 : w.heap.size ≤ bf := by omega
        clear HZ HV HX0 HB0 HB1 HB2 hs3 z0 z1 y0 y1 e1 e2 e3 e4 e5 e6 e7 e8 e9 e10
        unfold fn60 at HCH
        go_wp2_with (go_at_call 59; refine HCH.out.mono ?_; rintro e wp ⟨rfl, hpo⟩; have HPO := Lib.hid hpo; clear hpo)
        have p1 := post_keep HPO.out HBW.out n3 n4
        have p2 := post_fblk HPO.out HFB.out n1 n2
        have HP2 := Lib.hid p2
        have q1 : wp.cell? ⟨bw, 0, none⟩ = some (.slice (some ⟨gw, 0, none⟩) cnt cnt) := blk_cell p1 0
        have q2 := blk_cell HPO.out.few 0
        have q3 : wp.cell? ⟨bf, 0, none⟩ = some (.int .i64 (visS L ch cnt Zs [] (List.replicate cnt 0, (ch.length : Int) + 1)).2) := q2
        have q4 := p2.c0
        have q5 := p2.c1
        have q6 := p2.z 0
        have q7 := p2.z 1
        clear p1 p2 q2
        have HEND := Lib.hid (worst_end HPO.out HXC.out n5 n6 n1 (by omega) hc12 (.int .i64 0) (.int .i64 0))
        go_region
        all_goals go_wp2
        all_goals refine bodyPost_ret (v := .tuple #[.slice (some ⟨gw, 0, none⟩) cnt cnt, .int .i64 (visS L ch cnt Zs [] (List.replicate cnt 0, (ch.length : Int) + 1)).2, .agg #[.int .i64 0, .int .i64 0]]) (w_res Try.results27 _ _ (w.heap.size + 1 + 1) (_, _) _ _ rfl rfl rfl ?_) rfl ⟨.slice (some ⟨gw, 0, none⟩) cnt cnt, rfl, ?_, ?_⟩
        all_goals first | exact (HP2.out.set _ _).drew | exact HEND.out.1 | exact HEND.out.2
  · have HE : Hid (worstFault L ch count = (f1, f2)) := by
      show _ = _
      unfold worstFault; rw [HF.out, if_pos (by intro h; apply g1; injection h)]
    have HE2 : Hid (worstR L ch count = ([], 0)) := by
      show _ = _
      unfold worstR; rw [if_neg (by rw [HE.out]; intro h; apply g1; injection h)]
    rw [HE.out, HE2.out]
    go_enter Try.func27, Try.ntmps27
    go_wp2_with (first | (go_at_call 45; refine HV.out.mono ?_; rintro e w1 ⟨rfl, hx⟩; have hb := HB0.out.ext hx; have z0 := hb.c0; have z1 := hb.c1; have y0 := hb.z 0; have y1 := hb.z 1; have HX := Lib.hid (HX0.out.trans hx); have HB := Lib.hid hb; have hlt : w.heap.size + 1 + 1 < w1.heap.size := blk_lt hb; have hle1 : w.heap.size + 1 < w1.heap.size := Nat.lt_of_succ_lt hlt; have hle2 : w.heap.size < w1.heap.size := Nat.lt_of_succ_lt (Nat.lt_of_succ_lt hlt); clear hb hx))
    go_region
    all_goals go_wp2
    all_goals refine bodyPost_ret (v := .tuple #[.slice none 0 0, .int .i64 0, .agg #[.int .i64 f1, .int .i64 f2]]) (w_res Try.results27 _ _ (w.heap.size + 1 + 1) (_, _) _ _ rfl rfl rfl ?_) rfl ⟨_, rfl, nil_owns _ _ _, ?_⟩
    all_goals first | exact ((HB.out.set _ _).alloc _).drew | exact ((HX.out.set2at (by omega) _ _).alloc _).drew
end Go.Proofs.Ytbhcaniopdgjkaa
