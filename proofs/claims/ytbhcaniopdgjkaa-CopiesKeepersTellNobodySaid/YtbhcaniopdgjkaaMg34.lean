import Derived.Test.YtbhcaniopdgjkaaMg33
namespace Go.Proofs.Ytbhcaniopdgjkaa
open Go Go.Proofs Go.RowKit
open Plain (SiteD)
set_option maxHeartbeats 1000000
set_option maxRecDepth 100000
/-- How often each zone stands in a list. -/
def cntF (F : List Int) : Nat → Nat := fun z => F.count (z : Int)
theorem cntF_snoc (F : List Int) (x : Nat) : cntF (F ++ [(x : Int)]) = Plain.upd (cntF F) x (cntF F x + 1) := by
  funext z
  unfold cntF Plain.upd
  rw [List.count_append]
  by_cases h : z = x
  · subst h; rw [if_pos rfl]; simp
  · rw [if_neg h]
    have : List.count (z : Int) [(x : Int)] = 0 := by
      rw [List.count_eq_zero]; simp; omega
    rw [this]; rfl
theorem cntF_le (F : List Int) (z : Nat) : cntF F z ≤ F.length := List.count_le_length
theorem flatCh_len {L : List SiteD} (h : ∀ i, (Plain.zonesAt L i).length ≤ 12) : ∀ ch : List Int, (ch.flatMap (Plain.zonesAt L)).length ≤ ch.length * 12
  | [] => by simp
  | i :: r => by
    rw [List.flatMap_cons, List.length_append, List.length_cons]
    have := h i
    have := flatCh_len h r
    omega
theorem flatCh_next {L : List SiteD} {ch : List Int} {k : Nat} {i : Int} (h : ch[k]? = some i) : (ch.take (k + 1)).flatMap (Plain.zonesAt L) = (ch.take k).flatMap (Plain.zonesAt L) ++ Plain.zonesAt L i := by
  obtain ⟨h1, rfl⟩ := List.getElem?_eq_some_iff.1 h
  rw [List.take_succ_eq_append_getElem h1, List.flatMap_append]
  simp
structure Tal (w wr : World) (g : Nat) (f : Nat → Nat) : Prop where
  x : Ext w wr
  base : w.heap.size ≤ g
  row : wr.heap[g]? = some (.cells (labRow 12 f) 102 (0, 0))
theorem Tal.cell {w wr : World} {g : Nat} {f : Nat → Nat} (h : Tal w wr g f) {k : Nat} (hk : k < 12) : wr.cell? ⟨g, k, none⟩ = some (.int .i64 (f k : Int)) := by
  rw [blk_cell h.row]; exact labRow_at f hk
theorem Tal.z {w wr : World} {g : Nat} {f : Nat → Nat} (h : Tal w wr g f) (k : Nat) : wr.frozen? ⟨g, k, none⟩ = false := blk_frozen h.row k
theorem Tal.set {w wr : World} {g : Nat} {f : Nat → Nat} (h : Tal w wr g f) {i : Nat} (hi : i < 12) (v : Nat) : Tal w (wr.setCell ⟨g, i, none⟩ (.int .i64 (v : Int))) g (Plain.upd f i v) := by
  refine ⟨h.x.setCell (p := ⟨g, i, none⟩) h.base _, h.base, ?_⟩
  have := h.row
  rw [← labRow_set f v hi]
  simp only [World.setCell, Array.getElem?_modify, this, if_true]; rfl
theorem zonesAt_ok {L : List SiteD} (hs : Plain.sitesF L = (0, 0)) (i : Int) : (∀ z ∈ Plain.zonesAt L i, 0 ≤ z ∧ z < 12) ∧ (Plain.zonesAt L i).length ≤ 12 := by
  have hr : Plain.risingC (Plain.zonesAt L i) 12 = 0 := by
    unfold Plain.zonesAt
    cases h : L[i.toNat]? with
    | none => rfl
    | some s => exact Plain.sites_zones hs s (List.mem_of_getElem? h)
  exact ⟨(Plain.risingC_iff.1 hr).2, rising_len (n := 12) hr⟩
/-- The greatest of the counts. -/
def mostF (L : List SiteD) (ch : List Int) : Int := Lib.maxOf ((List.range 12).map fun z => (cntF (ch.flatMap (Plain.zonesAt L)) z : Int))
theorem most_c (A C : Option Addr) (L : List SiteD) (ch : List Int) (c1 c2 : Nat) (w : World) (hc : ch.length ≤ 1000) (hs : Plain.sitesF L = (0, 0)) (h1 : Sites w A L) (h2 : Sl w .i64 C ch) (hv : ∀ i ∈ ch, 0 ≤ i ∧ i < L.length) :
    Calls Try.prog 76 #[.slice A L.length c1, .slice C ch.length c2] w (NRet w (mostF L ch)) := by
  have HZK := Lib.hid (zonesAt_ok hs)
  have HFL := Lib.hid (flatCh_len fun i => (zonesAt_ok hs i).2)
  have HMX := Lib.hid (fun (w' : World) (g : Nat) (hc : ∀ j, j < ((List.range 12).map fun z => (cntF (ch.flatMap (Plain.zonesAt L)) z : Int)).length → w'.cell? ⟨g, 0 + j, none⟩ = some (.int .i64 (((List.range 12).map fun z => (cntF (ch.flatMap (Plain.zonesAt L)) z : Int)).getD j 0))) => Try.slices_Max_int g 0 12 12 ((List.range 12).map fun z => (cntF (ch.flatMap (Plain.zonesAt L)) z : Int)) w' (by decide) (by simp) (by decide) hc)
  have HMF : Hid (mostF L ch = Lib.maxOf (((List.range 12).map fun z => (cntF (ch.flatMap (Plain.zonesAt L)) z : Int)).take 12)) := by
    show _ = _
    unfold mostF
    rw [List.take_of_length_le (by simp)]
  obtain ⟨q, hq⟩ : ∃ q, q = ch.length := ⟨_, rfl⟩
  rw [← hq] at hc ⊢
  have HQ := Lib.hid hq
  have HV := Lib.hid hv
  have H1 := Lib.hid h1
  have H2 := Lib.hid h2
  clear hq hv h1 h2 hs
  go_enter Try.func76, Try.ntmps76
  go_wp2
  have HT0 : Hid (Tal w (w.alloc (.cells #[.int .i64 0, .int .i64 0, .int .i64 0, .int .i64 0, .int .i64 0, .int .i64 0, .int .i64 0, .int .i64 0, .int .i64 0, .int .i64 0, .int .i64 0, .int .i64 0] 102)) w.heap.size (cntF [])) := by
    refine ⟨(Ext.refl w).alloc _, Nat.le_refl _, ?_⟩
    rw [new_blk]
    rfl
  generalize w.alloc (.cells #[.int .i64 0, .int .i64 0, .int .i64 0, .int .i64 0, .int .i64 0, .int .i64 0, .int .i64 0, .int .i64 0, .int .i64 0, .int .i64 0, .int .i64 0, .int .i64 0] 102) = W1 at HT0 ⊢
  go_loopw [12] (fun v12 wr => ∃ k : Nat, k ≤ q ∧ v12 = .int .i64 k ∧ Tal w wr w.heap.size (cntF ((ch.take k).flatMap (Plain.zonesAt L)))) (fun v12 _ => q - (intOf v12).toNat)
  case atStart => exact ⟨0, Nat.zero_le _, rfl, HT0.out⟩
  case round =>
    clear HT0
    obtain ⟨k, hk, rfl, ht⟩ := hrel
    have HT := Lib.hid ht
    clear ht
    by_cases hkq : k < q
    · have hkl : k < ch.length := by rw [← HQ.out]; exact hkq
      obtain ⟨b, o, x, hC, hx, ha⟩ := H2.out.at2 hkl
      subst hC
      obtain ⟨x0, x1⟩ := HV.out x (List.mem_of_getElem? hx.out)
      obtain ⟨X, rfl⟩ : ∃ X : Nat, x = X := ⟨x.toNat, by omega⟩
      have hXL : X < L.length := by omega
      obtain ⟨s, hs⟩ : ∃ s, L[X]? = some s := ⟨_, List.getElem?_eq_getElem hXL⟩
      obtain ⟨b2, o2, hA, hsite⟩ := H1.out X s hs
      subst hA
      obtain ⟨Z, zc, z1, z2, z3, z4, z5⟩ := hsite.zones
      have ha' := HT.out.x.cell ha
      have z1' := HT.out.x.cell z1
      have hzs : Plain.zonesAt L (X : Int) = s.zones := by unfold Plain.zonesAt; rw [Int.toNat_natCast, hs]; rfl
      have HNX := Lib.hid (flatCh_next (L := L) hx.out)
      rw [hzs] at HNX
      have hzk := HZK.out (X : Int)
      rw [hzs] at hzk
      have HZV := Lib.hid hzk.1
      have hzl := hzk.2
      have HZ5 := Lib.hid z5
      have hfl := HFL.out (ch.take k)
      rw [List.length_take] at hfl
      obtain ⟨F, hF⟩ : ∃ F, F = (ch.take k).flatMap (Plain.zonesAt L) := ⟨_, rfl⟩
      rw [← hF] at HT HNX hfl
      have hF2 : F.length ≤ 12000 := by omega
      obtain ⟨zn, hzn⟩ : ∃ zn, zn = s.zones.length := ⟨_, rfl⟩
      have HZN := Lib.hid hzn
      rw [← hzn] at z1' hzl
      clear hkl hs hsite z1 z2 z3 z4 z5 ha hzs hzk hF hfl hzn
      go_wp2
      go_loopw [22] (fun v22 wr => ∃ j : Nat, j ≤ zn ∧ v22 = .int .i64 j ∧ Tal w wr w.heap.size (cntF (F ++ s.zones.take j))) (fun v22 _ => zn - (intOf v22).toNat)
      case atStart => exact ⟨0, Nat.zero_le _, rfl, by rw [List.take_zero, List.append_nil]; exact HT.out⟩
      case round =>
        clear HT
        obtain ⟨j, hj, rfl, ht⟩ := hrel
        have HT := Lib.hid ht
        clear ht
        by_cases hjz : j < zn
        · have hjl : j < s.zones.length := by rw [← HZN.out]; exact hjz
          obtain ⟨b3, o3, y, hZ, hy, hc3⟩ := HZ5.out.at2 hjl
          subst hZ
          obtain ⟨y0, y1⟩ := HZV.out y (List.mem_of_getElem? hy.out)
          obtain ⟨Y, rfl⟩ : ∃ Y : Nat, y = Y := ⟨y.toNat, by omega⟩
          have hY : Y < 12 := by omega
          have hc3' := HT.out.x.cell hc3
          have e1 := HT.out.cell hY
          have e2 := HT.out.z Y
          have HN : Hid (Tal w (wr.setCell ⟨w.heap.size, Y, none⟩ (.int .i64 ((cntF (F ++ s.zones.take j) Y + 1 : Nat) : Int))) w.heap.size (cntF (F ++ s.zones.take (j + 1)))) := by
            have := HT.out.set hY (cntF (F ++ s.zones.take j) Y + 1)
            rw [← cntF_snoc, List.append_assoc] at this
            have e3 : s.zones.take j ++ [(Y : Int)] = s.zones.take (j + 1) := by
              obtain ⟨g1, g2⟩ := List.getElem?_eq_some_iff.1 hy.out
              rw [List.take_succ_eq_append_getElem g1, g2]
            rw [e3] at this
            exact this
          have hb := cntF_le (F ++ s.zones.take j) Y
          rw [List.length_append, List.length_take] at hb
          generalize cntF (F ++ s.zones.take j) Y = cY at e1 HN hb
          have hcb : cY ≤ 20000 := by omega
          have hw : IntKind.i64.wrap ((cY : Int) + 1) = ((cY + 1 : Nat) : Int) := by rw [IntWalk.i64_in _ (by omega)]; omega
          clear hjl hc3 HT hb
          go_wp2
          exact ⟨⟨j + 1, by omega, by go_num, HN.out⟩, by simp [intOf]; omega⟩
        · have HE : Hid (F ++ s.zones.take j = (ch.take (k + 1)).flatMap (Plain.zonesAt L)) := by
            show _ = _
            rw [HNX.out, List.take_of_length_le (by rw [← HZN.out]; omega)]
          rw [HE.out] at HT
          go_wp2
          exact ⟨⟨k + 1, by omega, by go_num, HT.out⟩, by simp [intOf]; omega⟩
    · have hE : ch.take k = ch := List.take_of_length_le (by rw [← HQ.out]; omega)
      rw [hE] at HT
      have HM := Lib.hid (HMX.out wr w.heap.size (fun j hj => by
        simp only [List.length_map, List.length_range] at hj
        rw [Nat.zero_add, HT.out.cell hj]
        simp [hj]))
      rw [← HMF.out] at HM
      clear hE HMX HMF
      generalize mostF L ch = M at *
      go_wp2_with (go_at_call 91; refine HM.out.mono ?_; rintro e w' ⟨rfl, rfl⟩)
      go_ret
      exact ⟨rfl, HT.out.x⟩
end Go.Proofs.Ytbhcaniopdgjkaa
