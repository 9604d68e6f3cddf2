import Derived.Test.YtbhcaniopdgjkaaMg32
import Derived.Test.YtbhcaniopdgjkaaMg23
import Derived.Test.YtbhcaniopdgjkaaMg25
import Derived.Test.YtbhcaniopdgjkaaMg24
namespace Go.Proofs.Ytbhcaniopdgjkaa
open Go Go.Proofs Go.RowKit
open Plain (SiteD)
set_option maxHeartbeats 1000000
set_option maxRecDepth 100000
theorem sub_upTo_chosen {L : List SiteD} {ch : List Int} (hs : Plain.sitesF L = (0, 0)) (h : ch.Sublist (upTo L.length)) : Plain.chosenF L ch = (0, 0) := by
  unfold Plain.chosenF
  have hr : Plain.risingC ch L.length = 0 := Plain.sub_rising h (Plain.upTo_rising L.length)
  rw [if_pos hs, if_neg (by simpa using hr)]
theorem upTo_in {L : List SiteD} : ∀ i ∈ upTo L.length, 0 ≤ i ∧ i < L.length := fun _ hi => Plain.mem_range_int.1 hi
theorem cost_ok {L : List SiteD} (hs : Plain.sitesF L = (0, 0)) (i : Int) : 0 ≤ costAt L i ∧ costAt L i ≤ 1000000 := by
  unfold costAt
  cases h : L[i.toNat]? with
  | none => simp
  | some s => exact (sites_nums hs s (List.mem_of_getElem? h)).1
theorem plan1_c (R A : Option Addr) (L : List SiteD) (ch : List Int) (c c1 : Nat) (losses left : Int) (b1 b2 b3 : Nat) (w : World) (hL : L.length ≤ c1) (hc : ch.length ≤ maxLen) (h1 : Sites w A L) (hg : Glob w) (h2 : Sl w .i64 R ch) (hf : worstFault L ch losses = (0, 0))
    (k1 : w.cell? ⟨b1, 0, none⟩ = some (.slice A L.length c1)) (k2 : w.cell? ⟨b2, 0, none⟩ = some (.int .i64 losses)) (k3 : w.cell? ⟨b3, 0, none⟩ = some (.int .i64 left)) :
    Calls Try.prog 72 #[.slice R ch.length c, .pointer (some ⟨b1, 0, none⟩), .pointer (some ⟨b2, 0, none⟩), .pointer (some ⟨b3, 0, none⟩)] w (BRet w (holdF L losses left ch)) := by
  have HH := Lib.hid (holds_c A R L ch c1 c losses left w hL hc h1 hg h2 hf)
  clear h1 hg h2 hf
  go_enter Try.func72, Try.ntmps72
  go_wp2_with (go_at_call 67; refine HH.out.mono ?_; rintro e w3 ⟨rfl, hx3⟩; have HX3 := Lib.hid hx3; clear hx3)
  go_ret
  exact ⟨rfl, HX3.out⟩
def planFault (L : List SiteD) (losses left : Int) : Int × Int := if Plain.sitesF L = (0, 0) then limitsF losses left (-2) else Plain.sitesF L
def planSt (L : List SiteD) (losses left : Int) : Option (List Int) := Plain.accC (costF L) (holdF L losses left) (upTo L.length) (2 ^ L.length)
/-- What a search gives, behind the faults. -/
def endR (L : List SiteD) (f : Int × Int) (st : Option (List Int)) : List Int × Int × (Int × Int) := if f = (0, 0) then (st.getD [], costF L (st.getD []), foundF st) else ([], 0, f)
def planR (L : List SiteD) (losses left : Int) : List Int × Int × (Int × Int) := endR L (planFault L losses left) (planSt L losses left)
/-- The three variables and the result's fault. -/
def w4 (w : World) (A : Option Addr) (n c : Nat) (a b : Int) : World := (((w.alloc (.cells #[.slice A n c] 22)).alloc (.cells #[.int .i64 a] 3)).alloc (.cells #[.int .i64 b] 3)).alloc (.cells #[.int .i64 0, .int .i64 0] 25)
theorem w4_ext (w : World) (A : Option Addr) (n c : Nat) (a b : Int) : Ext w (w4 w A n c a b) := ((((Ext.refl w).alloc _).alloc _).alloc _).alloc _
theorem w4_blk (w : World) (A : Option Addr) (n c : Nat) (a b : Int) : (w4 w A n c a b).heap[w.heap.size]? = some (.cells #[.slice A n c] 22 (0, 0)) ∧ (w4 w A n c a b).heap[w.heap.size + 1]? = some (.cells #[.int .i64 a] 3 (0, 0)) ∧ (w4 w A n c a b).heap[w.heap.size + 1 + 1]? = some (.cells #[.int .i64 b] 3 (0, 0)) ∧ FBlk (w4 w A n c a b) (w.heap.size + 1 + 1 + 1) (0, 0) := by
  unfold w4 FBlk
  simp only [alloc_heap, alloc_size]
  refine ⟨?_, ?_, ?_, ?_⟩
  · rw [if_neg (by omega), if_neg (by omega), if_neg (by omega), if_pos trivial]
  · rw [if_neg (by omega), if_neg (by omega), if_pos trivial]
  · rw [if_neg (by omega), if_pos trivial]
  · rw [if_pos trivial]
theorem result_end (v : Value) (L : List SiteD) (st : Option (List Int)) (base : Nat) (w : World) (h : LB w base v (st.getD [])) :
    Calls Try.prog 69 #[v, .int .i64 (costF L (st.getD [])), .bool st.isSome] w (CRetB w base (st.getD []) (costF L (st.getD [])) (foundF st)) := by
  have := result_c v (st.getD []) (costF L (st.getD [])) st.isSome base w h
  cases st with
  | none => simpa [foundF, costF] using this
  | some b => simpa [foundF] using this
theorem keep_set2 {w : World} {a g i : Nat} {v x y : Value} (h : w.cell? ⟨a, i, none⟩ = some v) (hn : a ≠ g) : ((w.setCell ⟨g, 0, none⟩ x).setCell ⟨g, 1, none⟩ y).cell? ⟨a, i, none⟩ = some v := by
  rw [← h]
  unfold World.cell?
  simp only
  rw [Below.heap_setCell _ _ _ _ hn, Below.heap_setCell _ _ _ _ hn]
theorem Plan_c (A : Option Addr) (L : List SiteD) (c1 : Nat) (losses left : Int) (w : World) (hL : L.length ≤ c1) (h1 : Sites w A L) (hg : Glob w) :
    Calls Try.prog 40 #[.slice A L.length c1, .int .i64 losses, .int .i64 left] w (CRet w (planR L losses left).1 (planR L losses left).2.1 (planR L losses left).2.2) := by
  have HX0 := Lib.hid (w4_ext w A L.length c1 losses left)
  obtain ⟨hb0, hb1, hb2, hb3⟩ := w4_blk w A L.length c1 losses left
  have HV := Lib.hid (Validate_c A L c1 _ hL (h1.ext HX0.out) (hg.ext HX0.out))
  have HB0 := Lib.hid hb0
  have HB1 := Lib.hid hb1
  have HB2 := Lib.hid hb2
  have HB3 := Lib.hid hb3
  have HSC := Lib.hid (sitesF_code L)
  unfold planR endR planFault
  have HH : Hid (Plain.sitesF L = (0, 0) → inB losses 0 12 = true → ∀ w1, Ext (w4 w A L.length c1 losses left) w1 → ∀ R c, Sl w1 .i64 R (upTo L.length) →
      Calls Try.prog 70 #[.slice A L.length c1, .slice R L.length c, .func (.func 72) #[] #[.pointer (some ⟨w.heap.size, 0, none⟩), .pointer (some ⟨w.heap.size + 1, 0, none⟩), .pointer (some ⟨w.heap.size + 1 + 1, 0, none⟩)]] w1
        fun e w' => ∃ v, e = .returned (.tuple #[v, .int .i64 (costF L ((planSt L losses left).getD [])), .bool (planSt L losses left).isSome]) ∧ LB w' w1.heap.size v ((planSt L losses left).getD []) ∧ Ext w1 w') := by
    intro hs hin w1 x R c hsl
    have x0 := HX0.out.trans x
    have h10 := sitesF_len hs
    have := cheapest72_c w.heap.size (w.heap.size + 1) (w.heap.size + 1 + 1) A R L (upTo L.length) c1 c (holdF L losses left) w1 (by rw [upTo_len]; exact h10) (cost_ok hs) (h1.ext x0) hsl upTo_in (fun w2 x2 R2 c2 ch hch _ hsl2 => by
      have x3 := x0.trans x2
      have hcl : ch.length ≤ 10 := by have := hch.length_le; rw [upTo_len] at this; omega
      exact plan1_c R2 A L ch c2 c1 losses left _ _ _ w2 hL (by unfold maxLen; omega) (h1.ext x3) (hg.ext x3) hsl2 (worst_ok (sub_upTo_chosen hs hch) hin) ((x.trans x2).cell (blk_cell HB0.out 0)) ((x.trans x2).cell (blk_cell HB1.out 0)) ((x.trans x2).cell (blk_cell HB2.out 0)))
    rw [upTo_len] at this
    exact this
  have HA := Lib.hid (fun w1 => fun (h : L.length ≤ 100000) => all_c A L.length c1 w1 h)
  have HLE := Lib.hid (fun h => sitesF_len (L := L) h)
  have HUL := Lib.hid (upTo_len L.length)
  have HRE := Lib.hid (fun w1 v b h => result_end v L (planSt L losses left) b w1 h)
  unfold w4 at *
  generalize costF L ((planSt L losses left).getD []) = PN at *
  generalize planSt L losses left = ST at *
  generalize Plain.sitesF L = SF at *
  generalize upTo L.length = UT at *
  obtain ⟨f1, f2⟩ := SF
  clear h1 hg hb0 hb1 hb2 hb3
  by_cases g1 : f1 = 0
  · have hz := HSC.out g1
    have hl10 := HLE.out hz
    rw [if_pos hz]
    have HH2 := Lib.hid (HH.out hz)
    injection hz with q1 q2
    subst q1
    subst q2
    clear g1 HSC HLE HH
    unfold limitsF
    cases e1 : inB losses 0 12 with
    | false =>
      rw [if_pos (show (false = false) from rfl), if_neg (show ¬ (((4 : Int), (-2 : Int)) = (0, 0)) by decide)]
      go_enter Try.func40, Try.ntmps40
      go_wp2_with (first | (go_at_call 22; refine HV.out.mono ?_; rintro e w1 ⟨rfl, hx⟩; have hb := HB3.out.ext hx; have m0 : w1.cell? ⟨w.heap.size, 0, none⟩ = some (.slice A L.length c1) := blk_cell (ext_blk hx HB0.out) 0; have m1 : w1.cell? ⟨w.heap.size + 1, 0, none⟩ = some (.int .i64 losses) := blk_cell (ext_blk hx HB1.out) 0; have m2 : w1.cell? ⟨w.heap.size + 1 + 1, 0, none⟩ = some (.int .i64 left) := blk_cell (ext_blk hx HB2.out) 0; have hlt3 : w.heap.size + 1 + 1 + 1 < w1.heap.size := blk_lt hb; have hlt2 : w.heap.size + 1 + 1 < w1.heap.size := Nat.lt_of_succ_lt hlt3; have hlt1 : w.heap.size + 1 < w1.heap.size := Nat.lt_of_succ_lt hlt2; have hlt0 : w.heap.size < w1.heap.size := Nat.lt_of_succ_lt hlt1; have z0 := hb.c0; have z1 := hb.c1; have y0 := hb.z 0; have y1 := hb.z 1; have HB := Lib.hid hb; have HXV := Lib.hid hx; have HX := Lib.hid (HX0.out.trans hx); clear hb hx) | (go_at_call 64; refine (validLosses_c _ _).mono ?_; rintro e w' ⟨rfl, rfl⟩; rw [e1]) | (go_at_call 65; refine (cfault_c _ _ _).mono ?_; rintro e w' ⟨rfl, rfl⟩))
      refine bodyPost_ret (v := .tuple #[.slice none 0 0, .int .i64 0, .agg #[.int .i64 4, .int .i64 (-2)]]) (w_res Try.results40 _ _ (w.heap.size + 1 + 1 + 1) (_, _) _ _ rfl rfl rfl ?_) rfl ⟨_, rfl, ⟨none, 0, rfl, SlC.nil _ _⟩, ?_⟩
      · exact ((HB.out.set _ _).alloc _).alloc _
      · exact ((HX.out.set2at (by omega) _ _).alloc _).alloc _
    | true =>
      rw [if_neg (show ¬ (true = false) by simp)]
      cases e2 : inB left 0 10 with
      | false =>
        rw [if_pos (show (false = false) from rfl), if_neg (show ¬ (((4 : Int), ((-2 : Int) - 1)) = (0, 0)) by decide)]
        go_enter Try.func40, Try.ntmps40
        go_wp2_with (first | (go_at_call 22; refine HV.out.mono ?_; rintro e w1 ⟨rfl, hx⟩; have hb := HB3.out.ext hx; have m0 : w1.cell? ⟨w.heap.size, 0, none⟩ = some (.slice A L.length c1) := blk_cell (ext_blk hx HB0.out) 0; have m1 : w1.cell? ⟨w.heap.size + 1, 0, none⟩ = some (.int .i64 losses) := blk_cell (ext_blk hx HB1.out) 0; have m2 : w1.cell? ⟨w.heap.size + 1 + 1, 0, none⟩ = some (.int .i64 left) := blk_cell (ext_blk hx HB2.out) 0; have hlt3 : w.heap.size + 1 + 1 + 1 < w1.heap.size := blk_lt hb; have hlt2 : w.heap.size + 1 + 1 < w1.heap.size := Nat.lt_of_succ_lt hlt3; have hlt1 : w.heap.size + 1 < w1.heap.size := Nat.lt_of_succ_lt hlt2; have hlt0 : w.heap.size < w1.heap.size := Nat.lt_of_succ_lt hlt1; have z0 := hb.c0; have z1 := hb.c1; have y0 := hb.z 0; have y1 := hb.z 1; have HB := Lib.hid hb; have HXV := Lib.hid hx; have HX := Lib.hid (HX0.out.trans hx); clear hb hx) | (go_at_call 64; refine (validLosses_c _ _).mono ?_; rintro e w' ⟨rfl, rfl⟩; rw [e1]) | (go_at_call 66; refine (validLeft_c _ _).mono ?_; rintro e w' ⟨rfl, rfl⟩; rw [e2]) | (go_at_call 65; refine (cfault_c _ _ _).mono ?_; rintro e w' ⟨rfl, rfl⟩))
        refine bodyPost_ret (v := .tuple #[.slice none 0 0, .int .i64 0, .agg #[.int .i64 4, .int .i64 (-3)]]) (w_res Try.results40 _ _ (w.heap.size + 1 + 1 + 1) (_, _) _ _ rfl rfl rfl ?_) rfl ⟨_, rfl, ⟨none, 0, rfl, SlC.nil _ _⟩, ?_⟩
        · exact ((HB.out.set _ _).alloc _).alloc _
        · exact ((HX.out.set2at (by omega) _ _).alloc _).alloc _
      | true =>
        rw [if_neg (show ¬ (true = false) by simp), if_pos (show (((0 : Int), (0 : Int)) = (0, 0)) from rfl)]
        have HH3 := Lib.hid (HH2.out e1)
        have HA2 := Lib.hid (fun w1 => HA.out w1 (by omega))
        clear HA HH2
        go_enter Try.func40, Try.ntmps40
        go_upto_region 8 with (first | (go_at_call 22; refine HV.out.mono ?_; rintro e w1 ⟨rfl, hx⟩; have hb := HB3.out.ext hx; have m0 : w1.cell? ⟨w.heap.size, 0, none⟩ = some (.slice A L.length c1) := blk_cell (ext_blk hx HB0.out) 0; have m1 : w1.cell? ⟨w.heap.size + 1, 0, none⟩ = some (.int .i64 losses) := blk_cell (ext_blk hx HB1.out) 0; have m2 : w1.cell? ⟨w.heap.size + 1 + 1, 0, none⟩ = some (.int .i64 left) := blk_cell (ext_blk hx HB2.out) 0; have hlt3 : w.heap.size + 1 + 1 + 1 < w1.heap.size := blk_lt hb; have hlt2 : w.heap.size + 1 + 1 < w1.heap.size := Nat.lt_of_succ_lt hlt3; have hlt1 : w.heap.size + 1 < w1.heap.size := Nat.lt_of_succ_lt hlt2; have hlt0 : w.heap.size < w1.heap.size := Nat.lt_of_succ_lt hlt1; have z0 := hb.c0; have z1 := hb.c1; have y0 := hb.z 0; have y1 := hb.z 1; have HB := Lib.hid hb; have HXV := Lib.hid hx; have HX := Lib.hid (HX0.out.trans hx); clear hb hx) | (go_at_call 64; refine (validLosses_c _ _).mono ?_; rintro e w' ⟨rfl, rfl⟩; rw [e1]) | (go_at_call 66; refine (validLeft_c _ _).mono ?_; rintro e w' ⟨rfl, rfl⟩; rw [e2]))
        go_region_held3 (fun w' => w'.cell? ⟨w.heap.size, 0, none⟩ = some (.slice A L.length c1)) ((first | go_keep | exact keep_set2 (by assumption) (by omega))) ((first | (go_at_call 71; refine (HA2.out _).mono ?_; rintro e w5 ⟨v5, rfl, ho5, hx5⟩; have hx5' := ((Ext.refl w1).alloc _).drew.trans hx5; obtain ⟨R5, d5, hs5, l5⟩ := own_lv ho5; subst hs5; have m3 := hx5'.cell m0; have hg5 : (w.heap.size + 1 + 1 + 1) < w5.heap.size := Nat.lt_of_lt_of_le hlt3 hx5'.size; have HX5 := Lib.hid hx5'; have HC5 := Lib.hid (HH3.out _ (HXV.out.trans hx5') R5 d5 l5); rw [HUL.out]; clear ho5 hx5 hx5' l5) | (go_at_call 70; refine HC5.out.mono ?_; rintro e w6 ⟨v6, rfl, hl6, hx6⟩; have m4 := hx6.cell m3; have HX6 := Lib.hid (HX5.out.trans hx6); have HR6 := Lib.hid (HRE.out _ _ _ hl6); clear hx6 hl6) | (go_at_call 69; refine HR6.out.mono ?_; rintro e w7 ⟨v7, rfl, hl7, hx7⟩; have m5 := hx7.cell m4; have hx7' := HX6.out.trans hx7; have hb7 := HB.out.ext hx7'; have hlt7 : (w.heap.size + 1 + 1 + 1) < w7.heap.size := blk_lt hb7; have z0' := hb7.c0; have z1' := hb7.c1; have y0' := hb7.z 0; have y1' := hb7.z 1; have HB7 := Lib.hid hb7; have HX7 := Lib.hid (HX.out.trans hx7'); have HL7 := Lib.hid hl7; clear hx7 hx7' hb7 hl7)))
        all_goals go_wp2
        all_goals refine bodyPost_ret (v := .tuple #[v7, .int .i64 PN, .agg #[.int .i64 (foundF ST).1, .int .i64 (foundF ST).2]]) (w_res Try.results40 _ _ (w.heap.size + 1 + 1 + 1) (_, _) _ _ rfl rfl rfl ?_) rfl ⟨_, rfl, ?_, ?_⟩
        all_goals first | exact HB7.out.set _ _ | exact HL7.out.set2 hg5 _ _ | exact HX7.out.set2at (by omega) _ _
  · have hne : ¬ (f1, f2) = (0, 0) := by intro h; apply g1; injection h
    rw [if_neg hne, if_neg hne]
    go_enter Try.func40, Try.ntmps40
    go_wp2_with (first | (go_at_call 22; refine HV.out.mono ?_; rintro e w1 ⟨rfl, hx⟩; have hb := HB3.out.ext hx; have m0 : w1.cell? ⟨w.heap.size, 0, none⟩ = some (.slice A L.length c1) := blk_cell (ext_blk hx HB0.out) 0; have m1 : w1.cell? ⟨w.heap.size + 1, 0, none⟩ = some (.int .i64 losses) := blk_cell (ext_blk hx HB1.out) 0; have m2 : w1.cell? ⟨w.heap.size + 1 + 1, 0, none⟩ = some (.int .i64 left) := blk_cell (ext_blk hx HB2.out) 0; have hlt3 : w.heap.size + 1 + 1 + 1 < w1.heap.size := blk_lt hb; have hlt2 : w.heap.size + 1 + 1 < w1.heap.size := Nat.lt_of_succ_lt hlt3; have hlt1 : w.heap.size + 1 < w1.heap.size := Nat.lt_of_succ_lt hlt2; have hlt0 : w.heap.size < w1.heap.size := Nat.lt_of_succ_lt hlt1; have z0 := hb.c0; have z1 := hb.c1; have y0 := hb.z 0; have y1 := hb.z 1; have HB := Lib.hid hb; have HXV := Lib.hid hx; have HX := Lib.hid (HX0.out.trans hx); clear hb hx))
    go_region
    all_goals go_wp2
    all_goals refine bodyPost_ret (v := .tuple #[.slice none 0 0, .int .i64 0, .agg #[.int .i64 f1, .int .i64 f2]]) (w_res Try.results40 _ _ (w.heap.size + 1 + 1 + 1) (_, _) _ _ rfl rfl rfl ?_) rfl ⟨_, rfl, ⟨none, 0, rfl, SlC.nil _ _⟩, ?_⟩
    all_goals first | exact ((HB.out.set _ _).alloc _).drew | exact ((HX.out.set2at (by omega) _ _).alloc _).drew
end Go.Proofs.Ytbhcaniopdgjkaa
namespace Go.Proofs.Ytbhcaniopdgjkaa
open Go Go.Proofs Go.RowKit
open Plain (SiteD)
set_option maxHeartbeats 1000000
set_option maxRecDepth 100000
/-- The row of the labels. -/
def labRow (n : Nat) (f : Nat → Nat) : Array Value := ((List.range n).map fun k => Value.int .i64 (f k : Int)).toArray
theorem labRow_size (n : Nat) (f : Nat → Nat) : (labRow n f).size = n := by simp [labRow]
theorem labRow_at {n k : Nat} (f : Nat → Nat) (h : k < n) : (labRow n f)[k]? = some (.int .i64 (f k : Int)) := by simp [labRow, h]
theorem labRow_set {n i : Nat} (f : Nat → Nat) (v : Nat) (h : i < n) : (labRow n f).setIfInBounds i (.int .i64 (v : Int)) = labRow n (Plain.upd f i v) := by
  apply Array.ext_getElem?
  intro k
  rw [Array.getElem?_setIfInBounds, labRow_size]
  by_cases hk : k < n
  · rw [labRow_at _ hk, labRow_at _ hk]
    by_cases hik : i = k
    · subst hik; simp [hk, Plain.upd]
    · rw [if_neg hik]; simp [Plain.upd, Ne.symm hik]
  · rw [if_neg (by omega)]
    rw [Array.getElem?_eq_none (by rw [labRow_size]; omega), Array.getElem?_eq_none (by rw [labRow_size]; omega)]
/-- The worlds in which the labels are made. -/
structure Labs (w wr : World) (gf n : Nat) (f : Nat → Nat) : Prop where
  x : Ext w wr
  base : w.heap.size ≤ gf
  row : wr.heap[gf]? = some (.cells (labRow n f) 3 (0, 0))
theorem Labs.ext {w wr w1 : World} {gf n : Nat} {f : Nat → Nat} (h : Labs w wr gf n f) (e : Ext wr w1) : Labs w w1 gf n f := ⟨h.x.trans e, h.base, ext_blk e h.row⟩
theorem Labs.cell {w wr : World} {gf n : Nat} {f : Nat → Nat} (h : Labs w wr gf n f) {k : Nat} (hk : k < n) : wr.cell? ⟨gf, k, none⟩ = some (.int .i64 (f k : Int)) := by
  rw [blk_cell h.row]; exact labRow_at f hk
theorem Labs.z {w wr : World} {gf n : Nat} {f : Nat → Nat} (h : Labs w wr gf n f) (k : Nat) : wr.frozen? ⟨gf, k, none⟩ = false := blk_frozen h.row k
theorem Labs.set {w wr : World} {gf n : Nat} {f : Nat → Nat} (h : Labs w wr gf n f) {i : Nat} (hi : i < n) (v : Nat) : Labs w (wr.setCell ⟨gf, i, none⟩ (.int .i64 (v : Int))) gf n (Plain.upd f i v) := by
  refine ⟨h.x.setCell (p := ⟨gf, i, none⟩) h.base _, h.base, ?_⟩
  have := h.row
  rw [← labRow_set f v hi]
  simp only [World.setCell, Array.getElem?_modify, this, if_true]; rfl
end Go.Proofs.Ytbhcaniopdgjkaa
