import Derived.Test.YtbaahbpianingaaGreatDoorMg7
namespace Go.Proofs.YtbaahbpianingaaGreatDoor
open Go Go.Proofs Go.RowKit
open Tape (Rule Ts)
set_option maxHeartbeats 6400000
set_option maxRecDepth 100000
theorem town_ext {w w' : World} {base : Nat} {e : TypeId} {size n : Nat} {v : Value} {xs : List Value} (h : w.ownsRow base e size v n xs) (x : Ext w w') : w'.ownsRow base e size v n xs :=
  own_keep h fun g hg => x.block g (own_lt h hg).2
theorem town_base {w : World} {base base' : Nat} {e : TypeId} {size n : Nat} {v : Value} {xs : List Value} (h : w.ownsRow base e size v n xs) (hb : base' ≤ base) : w.ownsRow base' e size v n xs := by
  refine ⟨h.1, ?_⟩
  rcases h.2 with hn | ⟨g, cap, cur, h1, h2, h3⟩
  · exact .inl hn
  · exact .inr ⟨g, cap, cur, h1, Nat.le_trans hb h2, h3⟩
theorem own_setLow {w : World} {base : Nat} {e : TypeId} {size n : Nat} {v : Value} {xs : List Value} (h : w.ownsRow base e size v n xs) {g i : Nat} (hg : g < base) (u : Value) : (w.setCell ⟨g, i, none⟩ u).ownsRow base e size v n xs :=
  own_keep h fun k hk => Below.heap_setCell _ _ _ _ (fun q => by have := (own_lt h hk).1; have q2 : k = g := q; omega)
theorem own_setRowLow {w : World} {base : Nat} {e : TypeId} {size n : Nat} {v : Value} {xs : List Value} (h : w.ownsRow base e size v n xs) {g : Nat} (hg : g < base) (c : Array Value) : (w.setRow g c).ownsRow base e size v n xs :=
  own_keep h fun k hk => setRow_other _ _ _ _ (fun q => by have := (own_lt h hk).1; omega)
def zeroTs : Array Value := #[.slice none 0 0, .slice none 0 0, .int .i64 0, .int .i64 0, .int .i64 0]
/-- A row of the call's own is a slice that reads as its cells. -/
theorem own_sl5 {w : World} {base : Nat} {e : TypeId} {size : Nat} {v : Value} {n : Nat} {xs : List Value} (h : w.ownsRow base e size v n xs) : ∃ A c, v = .slice A n c ∧ n ≤ c ∧ c ≤ maxLen ∧ (A = none → c = 0) ∧ SlC w A xs := by
  rcases h.2 with ⟨rfl, rfl⟩ | ⟨g, cap, cur, rfl, hb, hg, hn, hm, _, ht⟩
  · refine ⟨none, 0, rfl, Nat.le_refl _, by simp [maxLen], fun _ => rfl, ?_⟩
    have : xs = [] := List.eq_nil_of_length_eq_zero (by simpa using h.1)
    subst this
    exact SlC.nil _ _
  · exact ⟨some ⟨g, 0, none⟩, cap, rfl, hn, hm, (fun h => by cases h), fun j u hu => ⟨_, rfl, h.cells (g := g) rfl j u hu⟩⟩
theorem ts_one {w w' : World} {cs : Array Value} {s : Ts} (h : TsIs w cs s) {v0 v1 : Value} {b n m sz : Nat} {e : TypeId} {xs ys : List Value} (h0 : w'.ownsRow b e sz v0 n xs) {e' : TypeId} {sz' : Nat} (h1 : w'.ownsRow b e' sz' v1 m ys) : ((cs.setIfInBounds 0 v0).setIfInBounds 1 v1).all (·.oneCell') = true := by
  obtain ⟨A, c, rfl, _⟩ := own_sl5 h0
  obtain ⟨B, d, rfl, _⟩ := own_sl5 h1
  rw [Array.all_eq_true]
  intro i hi
  have hs := h.size
  have hi5 : i < 5 := by simpa [hs] using hi
  have key : ∀ u, ((cs.setIfInBounds 0 (.slice A n c)).setIfInBounds 1 (.slice B m d))[i]? = some u → u.oneCell' = true := by
    intro u hu
    rw [getD_set, getD_set] at hu
    match i, hi5, hu with
    | 0, _, hu => simp [hs] at hu; subst hu; rfl
    | 1, _, hu => simp [hs] at hu; subst hu; rfl
    | 2, _, hu => simp [h.at_] at hu; subst hu; rfl
    | 3, _, hu => simp [h.state] at hu; subst hu; rfl
    | 4, _, hu => simp [h.stop] at hu; subst hu; rfl
  exact key _ (Array.getElem?_eq_getElem hi)
/-- What clone returns. -/
def ClRet (w : World) (cs : Array Value) (s : Ts) (e : Ending) (w' : World) : Prop :=
  ∃ v0 v1, e = .returned (.agg ((cs.setIfInBounds 0 v0).setIfInBounds 1 v1)) ∧ w'.ownsRow (w.heap.size + 2) 54 5 v0 s.rules.length (rulesV s.rules) ∧ w'.ownsRow (w.heap.size + 2) 3 1 v1 s.cells.length (s.cells.map (Value.int .i64)) ∧ Ext w w'
theorem clone_t (cs : Array Value) (s : Ts) (w : World) (h : TsIs w cs s) (hl0 : s.rules.length ≤ 2000) (hl1 : s.cells.length ≤ 2000) : Calls Tryz.prog 30 #[.agg cs] w (ClRet w cs s) := by
  obtain ⟨A0, c0, e0, -, -, n0, s0⟩ := h.rules
  obtain ⟨A1, c1, e1, -, -, n1, s1⟩ := h.cells
  have HC0 := Lib.hid (fun (W : World) (x : Ext w W) => CloneR_c A0 s.rules c0 W hl0 (s0.ext x) n0)
  have HC1 := Lib.hid (fun (W : World) (x : Ext w W) => CloneI_c A1 s.cells c1 W hl1 (s1.ext x) n1)
  have HSZ := Lib.hid h.size
  clear s0 s1 n0 n1
  have HH := Lib.hid h
  clear h
  go_enter Tryz.func30, Tryz.ntmps30
  go_upto_region 0 with (fail)
  go_cut [1, 2] (fun s1 s2 wx => s1 = .pointer (some ⟨w.heap.size, 0, none⟩) ∧ s2 = .pointer (some ⟨w.heap.size + 1, 0, none⟩) ∧ wx.heap[w.heap.size]? = some (.cells cs 25 (0, 0)) ∧ wx.heap[w.heap.size + 1]? = some (.cells zeroTs 25 (0, 0)) ∧ Ext w wx)
  case first =>
    go_wp2_with fail
    go_meet
    exact ⟨rfl, by simp, heap_alloc2_old w _ _, heap_alloc2_new w _ _, ((Ext.refl w).alloc _).alloc _⟩
  obtain ⟨rfl, rfl, hb1, hb2, hx⟩ := hcut
  obtain ⟨wa, rfl⟩ : ∃ wa : World, wa = wc := ⟨_, rfl⟩
  have HX := Lib.hid hx
  have HB1 := Lib.hid hb1
  have HB2 := Lib.hid hb2
  have hlta : w.heap.size + 2 ≤ wa.heap.size := (Array.getElem?_eq_some_iff.1 hb2).1
  have k0 : wa.cell? ⟨w.heap.size, 0, none⟩ = some (.slice A0 s.rules.length c0) := (blk_cell hb1 0).trans e0
  have k1 : wa.cell? ⟨w.heap.size, 1, none⟩ = some (.slice A1 s.cells.length c1) := (blk_cell hb1 1).trans e1
  have K1 := Lib.hid e1
  have K0 := Lib.hid e0
  clear hx hb1 hb2 e0 e1
  go_upto_region 1 with (fail)
  go_cut [] (fun wx => ∃ v0 v1, wx.heap[w.heap.size]? = some (.cells ((cs.setIfInBounds 0 v0).setIfInBounds 1 v1) 25 (0, 0)) ∧ wx.heap[w.heap.size + 1]? = some (.cells zeroTs 25 (0, 0)) ∧ wx.ownsRow (w.heap.size + 2) 54 5 v0 s.rules.length (rulesV s.rules) ∧ wx.ownsRow (w.heap.size + 2) 3 1 v1 s.cells.length (s.cells.map (Value.int .i64)) ∧ Ext w wx)
  case first =>
    refine wp_region_any (by kernel_rfl) ?_
    refine wpAny_take (i := 0) (oi := { dst := some 3, op := _, type := _, pos := _, after := _, guard := _ }) (v := ?v1) rfl (by kernel_rfl) (by kernel_rfl) (by kernel_rfl) (fun _ _ _ h => h) (Or.inl ⟨by rfl, ?hy1⟩) ?rest1
    case hy1 => (intro w; go_simp; (try with_reducible rfl))
    try simp only [Act.put, List.setIfInBounds_toArray, List.set_cons_zero, List.set_cons_succ]
    refine wpAny_take (i := 3) (oi := { dst := some 6, op := _, type := _, pos := _, after := _, guard := _ }) (v := ?v2) rfl (by kernel_rfl) (by kernel_rfl) (by kernel_rfl) (fun _ _ _ h => h) (Or.inl ⟨by rfl, ?hy2⟩) ?rest2
    case hy2 => (intro w; go_simp; (try with_reducible rfl))
    try simp only [Act.put, List.setIfInBounds_toArray, List.set_cons_zero, List.set_cons_succ]
    refine wpAny_ready (rs := [1, 4]) (by kernel_rfl) (by simp) ?_
    refine (AllReady.cons rfl (fun K hK => ?_) (AllReady.cons rfl (fun K hK => ?_) AllReady.nil))
    · go_simp
      refine hK _ _ ?_
      clear hK K
      try simp only [Act.put, List.setIfInBounds_toArray, List.set_cons_zero, List.set_cons_succ]
      refine wpAny_ready (rs := [2, 4]) (by kernel_rfl) (by simp) ?_
      refine (AllReady.cons rfl (fun K hK => ?_) (AllReady.cons rfl (fun K hK => ?_) AllReady.nil))
      · go_simp
        (with_reducible refine (HC0.out _ (HX.out.drew)).mono ?_)
        rintro e w1 ⟨v0, rfl, ho0, hx0⟩
        refine hK _ _ ?_
        clear hK K
        have hxa : Ext wa w1 := (((Ext.refl wa).drew).trans hx0)
        have HXA := Lib.hid hxa
        have HO0 := Lib.hid (town_base ho0 (base' := w.heap.size + 2) hlta)
        have q1 : w1.cell? ⟨w.heap.size, 1, none⟩ = some (.slice A1 s.cells.length c1) := (blk_cell (ext_heap hxa HB1.out) 1).trans K1.out
        have hlt1 : w.heap.size + 2 ≤ w1.heap.size := Nat.le_trans hlta hxa.size
        obtain ⟨P0, p0, rfl, _, _, _, _⟩ := own_sl5 HO0.out
        clear hxa ho0 hx0
        try simp only [Act.put, List.setIfInBounds_toArray, List.set_cons_zero, List.set_cons_succ]
        refine wpAny_ready (rs := [4]) (by kernel_rfl) (by simp) ?_
        refine (AllReady.cons rfl (fun K hK => ?_) AllReady.nil)
        · go_simp
          refine hK _ _ ?_
          clear hK K
          try simp only [Act.put, List.setIfInBounds_toArray, List.set_cons_zero, List.set_cons_succ]
          refine wpAny_take (i := 6) (oi := { dst := some 9, op := _, type := _, pos := _, after := _, guard := _ }) (v := ?v3) rfl (by kernel_rfl) (by kernel_rfl) (by kernel_rfl) (fun _ _ _ h => h) (Or.inl ⟨by rfl, ?hy3⟩) ?rest3
          case hy3 => (intro w; go_simp; (try with_reducible rfl))
          try simp only [Act.put, List.setIfInBounds_toArray, List.set_cons_zero, List.set_cons_succ]
          refine wpAny_ready (rs := [5]) (by kernel_rfl) (by simp) ?_
          refine (AllReady.cons rfl (fun K hK => ?_) AllReady.nil)
          · go_simp
            (with_reducible refine (HC1.out _ (HX.out.trans HXA.out)).mono ?_)
            rintro e w2 ⟨v1, rfl, ho1, hx1⟩
            refine hK _ _ ?_
            clear hK K
            have HXB := Lib.hid (HXA.out.trans hx1)
            have HO1 := Lib.hid (town_base ho1 (base' := w.heap.size + 2) hlt1)
            have HO0' := Lib.hid (town_ext HO0.out hx1)
            have HBB := Lib.hid (ext_heap HXB.out HB1.out)
            have HBC := Lib.hid (ext_heap HXB.out HB2.out)
            have q0 : w2.cell? ⟨w.heap.size, 0, none⟩ = some (.slice A0 s.rules.length c0) := (blk_cell HBB.out 0).trans K0.out
            have q2 : w2.cell? ⟨w.heap.size, 1, none⟩ = some (.slice A1 s.cells.length c1) := (blk_cell HBB.out 1).trans K1.out
            have z0 := blk_frozen HBB.out 0
            have z1 := blk_frozen HBB.out 1
            have hlt2 : w.heap.size + 2 ≤ w2.heap.size := Nat.le_trans hlt1 hx1.size
            have hlt3 : w.heap.size < w2.heap.size := by omega
            obtain ⟨P1, p1, rfl, _, _, _, _⟩ := own_sl HO1.out
            clear ho1 hx1 q1
            try simp only [Act.put, List.setIfInBounds_toArray, List.set_cons_zero, List.set_cons_succ]
            refine wpAny_ready (rs := [7]) (by kernel_rfl) (by simp) ?_
            refine (AllReady.cons rfl (fun K hK => ?_) AllReady.nil)
            · go_simp
              refine hK _ _ ?_
              clear hK K
              try simp only [Act.put, List.setIfInBounds_toArray, List.set_cons_zero, List.set_cons_succ]
              refine wpAny_take (i := 8) (oi := { dst := some 10, op := _, type := _, pos := _, after := _, guard := _ }) (v := ?v4) rfl (by kernel_rfl) (by kernel_rfl) (by kernel_rfl) (fun _ _ _ h => h) (Or.inl ⟨by rfl, ?hy4⟩) ?rest4
              case hy4 => (intro w; go_simp; (try with_reducible rfl))
              try simp only [Act.put, List.setIfInBounds_toArray, List.set_cons_zero, List.set_cons_succ]
              refine wpAny_ready (rs := [9]) (by kernel_rfl) (by simp) ?_
              refine (AllReady.cons rfl (fun K hK => ?_) AllReady.nil)
              · go_simp
                refine hK _ _ ?_
                clear hK K
                try simp only [Act.put, List.setIfInBounds_toArray, List.set_cons_zero, List.set_cons_succ]
                refine wpAny_done (by kernel_rfl) ?_ _
                go_wp2_with fail
                go_meet
                exact ⟨_, _, heap_set_self (heap_set_self HBB.out 0 _) 1 _, by rw [Below.heap_setCell _ _ _ _ (by show w.heap.size + 1 ≠ w.heap.size; omega), Below.heap_setCell _ _ _ _ (by show w.heap.size + 1 ≠ w.heap.size; omega)]; exact HBC.out, own_setLow (own_setLow HO0'.out (by omega) _) (by omega) _, own_setLow (own_setLow HO1.out (by omega) _) (by omega) _, ((HX.out.trans HXB.out).setCell (p := ⟨w.heap.size, 0, none⟩) (Nat.le_refl _) _).setCell (p := ⟨w.heap.size, 1, none⟩) (Nat.le_refl _) _⟩
      · go_simp
        refine hK _ _ ?_
        clear hK K
        try simp only [Act.put, List.setIfInBounds_toArray, List.set_cons_zero, List.set_cons_succ]
        refine wpAny_ready (rs := [2]) (by kernel_rfl) (by simp) ?_
        refine (AllReady.cons rfl (fun K hK => ?_) AllReady.nil)
        · go_simp
          (with_reducible refine (HC0.out _ (HX.out.drew)).mono ?_)
          rintro e w1 ⟨v0, rfl, ho0, hx0⟩
          refine hK _ _ ?_
          clear hK K
          have hxa : Ext wa w1 := (((Ext.refl wa).drew).trans hx0)
          have HXA := Lib.hid hxa
          have HO0 := Lib.hid (town_base ho0 (base' := w.heap.size + 2) hlta)
          have q1 : w1.cell? ⟨w.heap.size, 1, none⟩ = some (.slice A1 s.cells.length c1) := (blk_cell (ext_heap hxa HB1.out) 1).trans K1.out
          have hlt1 : w.heap.size + 2 ≤ w1.heap.size := Nat.le_trans hlta hxa.size
          obtain ⟨P0, p0, rfl, _, _, _, _⟩ := own_sl5 HO0.out
          clear hxa ho0 hx0
          try simp only [Act.put, List.setIfInBounds_toArray, List.set_cons_zero, List.set_cons_succ]
          refine wpAny_take (i := 6) (oi := { dst := some 9, op := _, type := _, pos := _, after := _, guard := _ }) (v := ?v5) rfl (by kernel_rfl) (by kernel_rfl) (by kernel_rfl) (fun _ _ _ h => h) (Or.inl ⟨by rfl, ?hy5⟩) ?rest5
          case hy5 => (intro w; go_simp; (try with_reducible rfl))
          try simp only [Act.put, List.setIfInBounds_toArray, List.set_cons_zero, List.set_cons_succ]
          refine wpAny_ready (rs := [5]) (by kernel_rfl) (by simp) ?_
          refine (AllReady.cons rfl (fun K hK => ?_) AllReady.nil)
          · go_simp
            (with_reducible refine (HC1.out _ (HX.out.trans HXA.out)).mono ?_)
            rintro e w2 ⟨v1, rfl, ho1, hx1⟩
            refine hK _ _ ?_
            clear hK K
            have HXB := Lib.hid (HXA.out.trans hx1)
            have HO1 := Lib.hid (town_base ho1 (base' := w.heap.size + 2) hlt1)
            have HO0' := Lib.hid (town_ext HO0.out hx1)
            have HBB := Lib.hid (ext_heap HXB.out HB1.out)
            have HBC := Lib.hid (ext_heap HXB.out HB2.out)
            have q0 : w2.cell? ⟨w.heap.size, 0, none⟩ = some (.slice A0 s.rules.length c0) := (blk_cell HBB.out 0).trans K0.out
            have q2 : w2.cell? ⟨w.heap.size, 1, none⟩ = some (.slice A1 s.cells.length c1) := (blk_cell HBB.out 1).trans K1.out
            have z0 := blk_frozen HBB.out 0
            have z1 := blk_frozen HBB.out 1
            have hlt2 : w.heap.size + 2 ≤ w2.heap.size := Nat.le_trans hlt1 hx1.size
            have hlt3 : w.heap.size < w2.heap.size := by omega
            obtain ⟨P1, p1, rfl, _, _, _, _⟩ := own_sl HO1.out
            clear ho1 hx1 q1
            try simp only [Act.put, List.setIfInBounds_toArray, List.set_cons_zero, List.set_cons_succ]
            refine wpAny_ready (rs := [7]) (by kernel_rfl) (by simp) ?_
            refine (AllReady.cons rfl (fun K hK => ?_) AllReady.nil)
            · go_simp
              refine hK _ _ ?_
              clear hK K
              try simp only [Act.put, List.setIfInBounds_toArray, List.set_cons_zero, List.set_cons_succ]
              refine wpAny_take (i := 8) (oi := { dst := some 10, op := _, type := _, pos := _, after := _, guard := _ }) (v := ?v6) rfl (by kernel_rfl) (by kernel_rfl) (by kernel_rfl) (fun _ _ _ h => h) (Or.inl ⟨by rfl, ?hy6⟩) ?rest6
              case hy6 => (intro w; go_simp; (try with_reducible rfl))
              try simp only [Act.put, List.setIfInBounds_toArray, List.set_cons_zero, List.set_cons_succ]
              refine wpAny_ready (rs := [9]) (by kernel_rfl) (by simp) ?_
              refine (AllReady.cons rfl (fun K hK => ?_) AllReady.nil)
              · go_simp
                refine hK _ _ ?_
                clear hK K
                try simp only [Act.put, List.setIfInBounds_toArray, List.set_cons_zero, List.set_cons_succ]
                refine wpAny_done (by kernel_rfl) ?_ _
                go_wp2_with fail
                go_meet
                exact ⟨_, _, heap_set_self (heap_set_self HBB.out 0 _) 1 _, by rw [Below.heap_setCell _ _ _ _ (by show w.heap.size + 1 ≠ w.heap.size; omega), Below.heap_setCell _ _ _ _ (by show w.heap.size + 1 ≠ w.heap.size; omega)]; exact HBC.out, own_setLow (own_setLow HO0'.out (by omega) _) (by omega) _, own_setLow (own_setLow HO1.out (by omega) _) (by omega) _, ((HX.out.trans HXB.out).setCell (p := ⟨w.heap.size, 0, none⟩) (Nat.le_refl _) _).setCell (p := ⟨w.heap.size, 1, none⟩) (Nat.le_refl _) _⟩
    · go_simp
      refine hK _ _ ?_
      clear hK K
      try simp only [Act.put, List.setIfInBounds_toArray, List.set_cons_zero, List.set_cons_succ]
      refine wpAny_ready (rs := [1]) (by kernel_rfl) (by simp) ?_
      refine (AllReady.cons rfl (fun K hK => ?_) AllReady.nil)
      · go_simp
        refine hK _ _ ?_
        clear hK K
        try simp only [Act.put, List.setIfInBounds_toArray, List.set_cons_zero, List.set_cons_succ]
        refine wpAny_ready (rs := [2]) (by kernel_rfl) (by simp) ?_
        refine (AllReady.cons rfl (fun K hK => ?_) AllReady.nil)
        · go_simp
          (with_reducible refine (HC0.out _ (HX.out.drew)).mono ?_)
          rintro e w1 ⟨v0, rfl, ho0, hx0⟩
          refine hK _ _ ?_
          clear hK K
          have hxa : Ext wa w1 := (((Ext.refl wa).drew).trans hx0)
          have HXA := Lib.hid hxa
          have HO0 := Lib.hid (town_base ho0 (base' := w.heap.size + 2) hlta)
          have q1 : w1.cell? ⟨w.heap.size, 1, none⟩ = some (.slice A1 s.cells.length c1) := (blk_cell (ext_heap hxa HB1.out) 1).trans K1.out
          have hlt1 : w.heap.size + 2 ≤ w1.heap.size := Nat.le_trans hlta hxa.size
          obtain ⟨P0, p0, rfl, _, _, _, _⟩ := own_sl5 HO0.out
          clear hxa ho0 hx0
          try simp only [Act.put, List.setIfInBounds_toArray, List.set_cons_zero, List.set_cons_succ]
          refine wpAny_take (i := 6) (oi := { dst := some 9, op := _, type := _, pos := _, after := _, guard := _ }) (v := ?v7) rfl (by kernel_rfl) (by kernel_rfl) (by kernel_rfl) (fun _ _ _ h => h) (Or.inl ⟨by rfl, ?hy7⟩) ?rest7
          case hy7 => (intro w; go_simp; (try with_reducible rfl))
          try simp only [Act.put, List.setIfInBounds_toArray, List.set_cons_zero, List.set_cons_succ]
          refine wpAny_ready (rs := [5]) (by kernel_rfl) (by simp) ?_
          refine (AllReady.cons rfl (fun K hK => ?_) AllReady.nil)
          · go_simp
            (with_reducible refine (HC1.out _ (HX.out.trans HXA.out)).mono ?_)
            rintro e w2 ⟨v1, rfl, ho1, hx1⟩
            refine hK _ _ ?_
            clear hK K
            have HXB := Lib.hid (HXA.out.trans hx1)
            have HO1 := Lib.hid (town_base ho1 (base' := w.heap.size + 2) hlt1)
            have HO0' := Lib.hid (town_ext HO0.out hx1)
            have HBB := Lib.hid (ext_heap HXB.out HB1.out)
            have HBC := Lib.hid (ext_heap HXB.out HB2.out)
            have q0 : w2.cell? ⟨w.heap.size, 0, none⟩ = some (.slice A0 s.rules.length c0) := (blk_cell HBB.out 0).trans K0.out
            have q2 : w2.cell? ⟨w.heap.size, 1, none⟩ = some (.slice A1 s.cells.length c1) := (blk_cell HBB.out 1).trans K1.out
            have z0 := blk_frozen HBB.out 0
            have z1 := blk_frozen HBB.out 1
            have hlt2 : w.heap.size + 2 ≤ w2.heap.size := Nat.le_trans hlt1 hx1.size
            have hlt3 : w.heap.size < w2.heap.size := by omega
            obtain ⟨P1, p1, rfl, _, _, _, _⟩ := own_sl HO1.out
            clear ho1 hx1 q1
            try simp only [Act.put, List.setIfInBounds_toArray, List.set_cons_zero, List.set_cons_succ]
            refine wpAny_ready (rs := [7]) (by kernel_rfl) (by simp) ?_
            refine (AllReady.cons rfl (fun K hK => ?_) AllReady.nil)
            · go_simp
              refine hK _ _ ?_
              clear hK K
              try simp only [Act.put, List.setIfInBounds_toArray, List.set_cons_zero, List.set_cons_succ]
              refine wpAny_take (i := 8) (oi := { dst := some 10, op := _, type := _, pos := _, after := _, guard := _ }) (v := ?v8) rfl (by kernel_rfl) (by kernel_rfl) (by kernel_rfl) (fun _ _ _ h => h) (Or.inl ⟨by rfl, ?hy8⟩) ?rest8
              case hy8 => (intro w; go_simp; (try with_reducible rfl))
              try simp only [Act.put, List.setIfInBounds_toArray, List.set_cons_zero, List.set_cons_succ]
              refine wpAny_ready (rs := [9]) (by kernel_rfl) (by simp) ?_
              refine (AllReady.cons rfl (fun K hK => ?_) AllReady.nil)
              · go_simp
                refine hK _ _ ?_
                clear hK K
                try simp only [Act.put, List.setIfInBounds_toArray, List.set_cons_zero, List.set_cons_succ]
                refine wpAny_done (by kernel_rfl) ?_ _
                go_wp2_with fail
                go_meet
                exact ⟨_, _, heap_set_self (heap_set_self HBB.out 0 _) 1 _, by rw [Below.heap_setCell _ _ _ _ (by show w.heap.size + 1 ≠ w.heap.size; omega), Below.heap_setCell _ _ _ _ (by show w.heap.size + 1 ≠ w.heap.size; omega)]; exact HBC.out, own_setLow (own_setLow HO0'.out (by omega) _) (by omega) _, own_setLow (own_setLow HO1.out (by omega) _) (by omega) _, ((HX.out.trans HXB.out).setCell (p := ⟨w.heap.size, 0, none⟩) (Nat.le_refl _) _).setCell (p := ⟨w.heap.size, 1, none⟩) (Nat.le_refl _) _⟩
  obtain ⟨v0, v1, hb1, hb2, ho0, ho1, hx⟩ := hcut
  obtain ⟨wb, rfl⟩ : ∃ wb : World, wb = wc := ⟨_, rfl⟩
  have HR1 := Lib.hid hb1
  have HR2 := Lib.hid hb2
  have HO0 := Lib.hid ho0
  have HO1 := Lib.hid ho1
  have HXX := Lib.hid hx
  have HS2 : Hid (((cs.setIfInBounds 0 v0).setIfInBounds 1 v1).size = 5) := Lib.hid (by simpa using HSZ.out)
  have HON : Hid (((cs.setIfInBounds 0 v0).setIfInBounds 1 v1).all (·.oneCell') = true) := Lib.hid (ts_one HH.out ho0 ho1)
  clear hb1 hb2 ho0 ho1 hx k0 k1
  obtain ⟨cz, hcz⟩ : ∃ cz, cz = (cs.setIfInBounds 0 v0).setIfInBounds 1 v1 := ⟨_, rfl⟩
  rw [← hcz] at HR1 HS2 HON
  have HCZ := Lib.hid hcz
  clear hcz
  go_wp2_with (first | refine wpList_load_row rfl 25 _ rfl w.heap.size rfl 25 cz (0, 0) _ HR1.out Tryz.underlying25 rfl (by rw [HS2.out]; exact sizeQ) ?_ | refine wpList_store_row rfl 25 _ _ rfl (w.heap.size + 1) cz rfl rfl 25 zeroTs HR2.out (by rw [HS2.out]; exact sizeQ) (by rw [HS2.out]; rfl) HON.out ?_)
  refine bodyPost_ret (results_cell_row rfl _ _ (w.heap.size + 1) 25 cz (0, 0) _ rfl ?_ Tryz.underlying25 rfl (by rw [HS2.out]; exact sizeQ)) rfl ⟨v0, v1, by rw [HCZ.out], own_setRowLow HO0.out (by omega) _, own_setRowLow HO1.out (by omega) _, HXX.out.setRow (by omega) _⟩
  exact setRow_heap _ _ _ _ _ _ HR2.out
end Go.Proofs.YtbaahbpianingaaGreatDoor
namespace Go.Proofs.YtbaahbpianingaaGreatDoor
open Go Go.Proofs Go.RowKit
open Tape (Rule Ts)
set_option maxHeartbeats 6400000
set_option maxRecDepth 100000
/-- The blocks that the machine may write, and those below B. -/
def badT (B bm : Nat) (vc : Value) (g : Nat) : Prop := g = bm ∨ vc.ownBlock = some g ∨ g < B
/-- The machine's block, and the rows that belong to it. -/
structure TmIs (w : World) (B bm : Nat) (s : Ts) (cs : Array Value) (vc : Value) : Prop where
  blk : w.heap[bm]? = some (.cells cs 25 (0, 0))
  le : B ≤ bm
  size : cs.size = 5
  rules : ∃ A c, cs[0]? = some (.slice A s.rules.length c) ∧ s.rules.length ≤ c ∧ c ≤ maxLen ∧ (A = none → c = 0) ∧ SlF w A (rulesV s.rules) (badT B bm vc)
  cells : cs[1]? = some vc
  own : w.ownsRow B 3 1 vc s.cells.length (s.cells.map (Value.int .i64))
  at_ : cs[2]? = some (.int .i64 s.at_)
  state : cs[3]? = some (.int .i64 s.state)
  stop : cs[4]? = some (.int .i64 s.stop)
section
variable {w w1 w' : World} {B bm : Nat} {s : Ts} {cs : Array Value} {vc : Value}
theorem TmIs.lt (h : TmIs w B bm s cs vc) : bm < w.heap.size := (Array.getElem?_eq_some_iff.1 h.blk).1
theorem TmIs.keep (h : TmIs w B bm s cs vc) (hk : ∀ g, g < w.heap.size → w'.heap[g]? = w.heap[g]?) : TmIs w' B bm s cs vc := by
  obtain ⟨A, c, h1, h2, h3, h4, h5⟩ := h.rules
  exact ⟨by rw [hk _ h.lt]; exact h.blk, h.le, h.size, ⟨A, c, h1, h2, h3, h4, h5.keep (fun g _ hg => hk g hg) (fun _ _ x => x)⟩, h.cells, own_keep h.own (fun g hg => hk g (own_lt h.own hg).2), h.at_, h.state, h.stop⟩
theorem TmIs.ext (h : TmIs w B bm s cs vc) (e : Ext w w') : TmIs w' B bm s cs vc := h.keep fun g hg => e.block g hg
theorem TmIs.cell (h : TmIs w B bm s cs vc) (i : Nat) : w.cell? ⟨bm, i, none⟩ = cs[i]? := cell_of_row w bm i cs 25 (0, 0) h.blk
theorem TmIs.frozen (h : TmIs w B bm s cs vc) (i : Nat) : w.frozen? ⟨bm, i, none⟩ = false := by simp [World.frozen?, h.blk]
theorem TmIs.ownNe (h : TmIs w B bm s cs vc) : vc.ownBlock ≠ some bm := own_ne h.own h.blk (by decide)
theorem TmIs.setNum (h : TmIs w B bm s cs vc) (i : Nat) (hi : 2 ≤ i) (u : Value) (s' : Ts) (er : s'.rules = s.rules) (ec : s'.cells = s.cells)
    (e2 : (if i = 2 then some u else some (.int .i64 s.at_)) = some (.int .i64 s'.at_)) (e3 : (if i = 3 then some u else some (.int .i64 s.state)) = some (.int .i64 s'.state)) (e4 : (if i = 4 then some u else some (.int .i64 s.stop)) = some (.int .i64 s'.stop)) :
    TmIs (w.setCell ⟨bm, i, none⟩ u) B bm s' (cs.setIfInBounds i u) vc := by
  have hsz := h.size
  have hk : ∀ g, g ≠ bm → (w.setCell ⟨bm, i, none⟩ u).heap[g]? = w.heap[g]? := fun g hg => Below.heap_setCell w ⟨bm, i, none⟩ u g hg
  obtain ⟨A, c, h1, h2, h3, h4, h5⟩ := h.rules
  refine ⟨heap_set_self h.blk i u, h.le, by simpa using hsz, ⟨A, c, ?_, ?_, h3, h4, ?_⟩, ?_, ?_, ?_, ?_, ?_⟩
  · rw [getD_set, if_neg (by omega), er]; exact h1
  · rw [er]; exact h2
  · rw [er]; exact h5.keep (fun g hg _ => hk g (fun e => hg (.inl e))) (fun _ _ x => x)
  · rw [getD_set, if_neg (by omega)]; exact h.cells
  · rw [ec]; exact own_keep h.own fun g hg => hk g (fun e => h.ownNe (by rw [hg, e]))
  · rw [getD_set, ← e2, h.at_]; split
    · rw [if_pos (by omega)]
    · rfl
  · rw [getD_set, ← e3, h.state]; split
    · rw [if_pos (by omega)]
    · rfl
  · rw [getD_set, ← e4, h.stop]; split
    · rw [if_pos (by omega)]
    · rfl
theorem TmIs.setAt (h : TmIs w B bm s cs vc) (n : Int) : TmIs (w.setCell ⟨bm, 2, none⟩ (.int .i64 n)) B bm { s with at_ := n } (cs.setIfInBounds 2 (.int .i64 n)) vc := h.setNum 2 (by omega) _ _ rfl rfl rfl rfl rfl
theorem TmIs.setState (h : TmIs w B bm s cs vc) (n : Int) : TmIs (w.setCell ⟨bm, 3, none⟩ (.int .i64 n)) B bm { s with state := n } (cs.setIfInBounds 3 (.int .i64 n)) vc := h.setNum 3 (by omega) _ _ rfl rfl rfl rfl rfl
theorem TmIs.setStop (h : TmIs w B bm s cs vc) (n : Int) : TmIs (w.setCell ⟨bm, 4, none⟩ (.int .i64 n)) B bm { s with stop := n } (cs.setIfInBounds 4 (.int .i64 n)) vc := h.setNum 4 (by omega) _ _ rfl rfl rfl rfl rfl
/-- The tape has been replaced by another row, in its place or new. -/
theorem TmIs.newCells (h : TmIs w B bm s cs vc) {vc' : Value} {r : List Int} (hr : RowTo w w1 B 3 vc vc' r.length (r.map (Value.int .i64))) :
    TmIs (w1.setCell ⟨bm, 1, none⟩ vc') B bm { s with cells := r } (cs.setIfInBounds 1 vc') vc' := by
  have hsz := h.size
  have hblk1 : w1.heap[bm]? = some (.cells cs 25 (0, 0)) := by rw [hr.block h.lt h.ownNe]; exact h.blk
  have hk : ∀ g, g ≠ bm → (w1.setCell ⟨bm, 1, none⟩ vc').heap[g]? = w1.heap[g]? := fun g hg => Below.heap_setCell w1 ⟨bm, 1, none⟩ vc' g hg
  obtain ⟨A, c, h1, h2, h3, h4, h5⟩ := h.rules
  refine ⟨heap_set_self hblk1 1 vc', h.le, by simpa using hsz, ⟨A, c, ?_, h2, h3, h4, ?_⟩, ?_, ?_, ?_, ?_, ?_⟩
  · rw [getD_set, if_neg (by decide)]; exact h1
  · refine h5.keep (fun g hg hlt => ?_) (fun g hlt hb => ?_)
    · rw [hk g (fun e => hg (.inl e)), hr.block hlt (fun e => hg (.inr (.inl e)))]
    · rcases hb with hb | hb | hb
      · exact .inl hb
      · exact .inr (.inl (hr.old hlt hb))
      · exact .inr (.inr hb)
  · rw [getD_set, if_pos rfl, if_pos (by omega)]
  · exact own_keep hr.own fun g hg => hk g (fun e => own_ne hr.own hblk1 (by decide) (by rw [hg, e]))
  · rw [getD_set, if_neg (by decide)]; exact h.at_
  · rw [getD_set, if_neg (by decide)]; exact h.state
  · rw [getD_set, if_neg (by decide)]; exact h.stop
/-- A cell of the tape is written. -/
theorem TmIs.put {g c : Nat} (h : TmIs w B bm s cs (.slice (some ⟨g, 0, none⟩) s.cells.length c)) (j : Nat) (x : Int) : TmIs (w.setCell ⟨g, j, none⟩ (.int .i64 x)) B bm { s with cells := s.cells.set j x } cs (.slice (some ⟨g, 0, none⟩) s.cells.length c) := by
  obtain ⟨h1, h2⟩ := h.own.stored j (.int .i64 x)
  obtain ⟨A, c', r1, r2, r3, r4, r5⟩ := h.rules
  have hne : ∀ k, k ≠ g → (w.setCell ⟨g, j, none⟩ (.int .i64 x)).heap[k]? = w.heap[k]? := fun k hk => Below.heap_setCell w ⟨g, j, none⟩ _ k hk
  have hgb : bm ≠ g := fun e => h.ownNe (by rw [e]; rfl)
  refine ⟨by rw [hne bm hgb]; exact h.blk, h.le, h.size, ⟨A, c', r1, r2, r3, r4, ?_⟩, ?_, ?_, h.at_, h.state, h.stop⟩
  · exact r5.keep (fun k hk _ => hne k (fun e => hk (.inr (.inl (by rw [e]; rfl))))) (fun _ _ x => x)
  · exact h.cells
  · show (w.setCell ⟨g, j, none⟩ (.int .i64 x)).ownsRow B 3 1 _ (s.cells.set j x).length ((s.cells.set j x).map (Value.int .i64))
    rw [List.length_set, List.map_set]
    exact h1
end
end Go.Proofs.YtbaahbpianingaaGreatDoor
