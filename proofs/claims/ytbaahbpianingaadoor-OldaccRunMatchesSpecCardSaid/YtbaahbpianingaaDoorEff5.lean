import Derived.Test.YtbaahbpianingaaDoorEff4
namespace Go.Proofs.YtbaahbpianingaaDoor
open Go Go.Proofs Go.RowKit
open Acc (Dk red five)
set_option maxHeartbeats 4000000
set_option maxRecDepth 100000
theorem step_append_str {P : Program} {w : World} {ops : Array Oper} {o : Oper} {a : Act} {K : Act → World → Prop} {Q : Exit → Act → World → Prop} {E : Prop} (hgd : o.guard = none) (sl x : Operand) (t u : TypeId)
    (ho : o.op = .call { callee := .builtin .append, args := #[sl, x], argTypes := #[t, u] })
    (base : Nat) (e : TypeId) (i : TypeInfo) (ht : P.underlying t = some (.slice e)) (hu : P.underlying u = some .string) (hi : P.info? e = some i) (hz : i.zero = some (.int .u8 0)) (hsize : i.size = 1) (hby : i.bytes = 1)
    (v : Value) (n : Nat) (xs : List Value) (hs : a.eval sl = v) (hown : w.ownsRow base e 1 v n xs) (s : ByteArray) (hx : a.eval x = .string s)
    (h63 : n + s.size ≤ maxLen) (hbytes : n + s.size ≤ 140737488355328) (hbase : base ≤ w.heap.size)
    (h : ∀ v' w', RowTo w w' base e v v' (n + s.size) (xs ++ Lib.strCells s) → K (a.put o.dst v') w') :
    if Region.wanted o (yielded ops a.tmps) = true then Oper.wp P o a w K Q else E := by
  have hw : Region.wanted o (yielded ops a.tmps) = true := by simp [Region.wanted, hgd]
  rw [if_pos hw]
  obtain ⟨v', w', hrun, h2⟩ := run_append_str (P := P) w base t u o.type e i ht hu hi hz hsize hby v n xs hown s h63 hbytes hbase
  unfold Oper.wp execOp
  simp only [ho, resolve, invoke, builtin, Sem.run_bind, Sem.run_pure, Result.andThen_ok, List.map_toArray, List.map_cons, List.map_nil, hs, hx, hrun]
  exact h v' w' h2
theorem RowTo.cell {w w1 : World} {bm : Nat} {e : TypeId} {v v' : Value} {n : Nat} {xs : List Value} (h : RowTo w w1 bm e v v' n xs) {p : Addr} {u : Value} (hne : v.ownBlock ≠ some p.block) (hc : w.cell? p = some u) : w1.cell? p = some u := by
  rw [World.cell?_of_block (w := w) (h.block (World.block_lt_of_cell? w p hc) hne)]
  exact hc
theorem RowTo.below {w w1 : World} {bm : Nat} {e : TypeId} {v v' : Value} {n m : Nat} {xs ys : List Value} (h : RowTo w w1 bm e v v' n xs) (ho : w.ownsRow bm e 1 v m ys) (hb : bm ≤ w.heap.size) : Below bm w w1 := by
  refine ⟨h.grown.os, h.grown.tape, h.grown.output, h.grown.size, fun b hlt => h.block (by omega) fun q => ?_⟩
  have := (own_lt ho q).1
  omega
theorem RowTo.fix {w w1 : World} {bm : Nat} {v v' : Value} {l m : List Int} (hm : Byt m) (h : RowTo w w1 bm 5 v v' (l.length + (strOfNums m).size) (l.map (Value.int .u8) ++ Lib.strCells (strOfNums m))) : RowTo w w1 bm 5 v v' (l ++ m).length ((l ++ m).map (Value.int .u8)) := by
  rw [strOfNums_size, strCells_nums hm, ← List.map_append, ← List.length_append] at h
  exact h
section
variable {w : World} {bm g : Nat} {s : Dk} {cs : Array Value} {vo : Value}
theorem eff14 (h : MachIs w bm s cs vo) (hc : Caught w g bm) (ok : OkSt s) (ht : Tabs w) (hg : vo.ownBlock ≠ some g) (ho : s.output.length ≤ 1000) (a : Nat) : Calls Tryd.prog 111 #[.int .i64 (a : Int), .pointer (some ⟨g, 0, none⟩)] w (EffPost w bm (Acc.effF s 14 a)) := by
  have he : Acc.effF s 14 a = { s with output := s.output ++ Acc.lineF s.a } := by simp [Acc.effF]
  rw [he]
  obtain ⟨i0, hi, hz0, hz1, hz2⟩ := info_parts infoB
  have HH := Lib.hid h
  have HT := Lib.hid ht
  have HGV := Lib.hid hg
  have hlt := h.lt
  have k3 : w.cell? ⟨g, 0, none⟩ = some (.pointer (some ⟨bm, 0, none⟩)) := hc
  have hgb := hc.ne h
  have hl7 := line_len ok.ok.a
  have HL7 := Lib.hid hl7
  have HL := Lib.hid (fun W (hW : MachIs W bm s cs vo) (hT : Tabs W) => line_c hW ok.ok.a hT)
  have HBY := Lib.hid (signed_byt' s.a)
  have HNE := Lib.hid (own_ne h.outputo h.blk (by decide))
  have kO : w.cell? ⟨bm, 106, none⟩ = some vo := by rw [h.cell, h.output]
  have hsz := strOfNums_size (Acc.lineF s.a)
  have HSZ := Lib.hid hsz
  clear he hsz hl7
  generalize Acc.lineF s.a = ln at *
  clear h hc ht hg
  go_enter Tryd.func111, Tryd.ntmps111
  refine wp_region_held_drew (S := (fun w' => w'.cell? ⟨g, 0, none⟩ = some (.pointer (some ⟨bm, 0, none⟩)))) (by kernel_rfl) ?_ (fun hHeld => ?_)
  · (first | exact keep_c c3 (.inl hgb) | exact c3 | exact q3 | exact k3 | go_keep)
  refine wpAnyH_take (i := 0) (oi := { dst := some 3, op := _, type := _, pos := _, after := _, guard := _ }) (v := ?v1) rfl (by kernel_rfl) (by kernel_rfl) (by kernel_rfl) (fun _ _ _ h => h) (Or.inl ⟨by rfl, ?hy1⟩) (by assumption) ?rest1
  case hy1 => (intro w hSw; (try dsimp only at hSw); go_simp; (try with_reducible rfl))
  try simp only [Act.put, List.setIfInBounds_toArray, List.set_cons_zero, List.set_cons_succ]
  refine wpAnyH_take (i := 1) (oi := { dst := some 4, op := _, type := _, pos := _, after := _, guard := _ }) (v := ?v2) rfl (by kernel_rfl) (by kernel_rfl) (by kernel_rfl) (fun _ _ _ h => h) (Or.inl ⟨by rfl, ?hy2⟩) (by assumption) ?rest2
  case hy2 => (intro w hSw; (try dsimp only at hSw); go_simp; (try with_reducible rfl))
  try simp only [Act.put, List.setIfInBounds_toArray, List.set_cons_zero, List.set_cons_succ]
  refine wpAnyH_take (i := 2) (oi := { dst := some 5, op := _, type := _, pos := _, after := _, guard := _ }) (v := ?v3) rfl (by kernel_rfl) (by kernel_rfl) (by kernel_rfl) (fun _ _ _ h => h) (Or.inl ⟨by rfl, ?hy3⟩) (by assumption) ?rest3
  case hy3 => (intro w hSw; (try dsimp only at hSw); go_simp; (try with_reducible rfl))
  try simp only [Act.put, List.setIfInBounds_toArray, List.set_cons_zero, List.set_cons_succ]
  refine wpAnyH_take (i := 3) (oi := { dst := some 6, op := _, type := _, pos := _, after := _, guard := _ }) (v := ?v4) rfl (by kernel_rfl) (by kernel_rfl) (by kernel_rfl) (fun _ _ _ h => h) (Or.inl ⟨by rfl, ?hy4⟩) (by assumption) ?rest4
  case hy4 => (intro w hSw; (try dsimp only at hSw); go_simp; (try with_reducible rfl))
  try simp only [Act.put, List.setIfInBounds_toArray, List.set_cons_zero, List.set_cons_succ]
  refine wpAnyH_take (i := 4) (oi := { dst := some 7, op := _, type := _, pos := _, after := _, guard := _ }) (v := ?v5) rfl (by kernel_rfl) (by kernel_rfl) (by kernel_rfl) (fun _ _ _ h => h) (Or.inl ⟨by rfl, ?hy5⟩) (by assumption) ?rest5
  case hy5 => (intro w hSw; (try dsimp only at hSw); go_simp; (try with_reducible rfl))
  try simp only [Act.put, List.setIfInBounds_toArray, List.set_cons_zero, List.set_cons_succ]
  refine wpAnyH_take (i := 6) (oi := { dst := some 9, op := _, type := _, pos := _, after := _, guard := _ }) (v := ?v6) rfl (by kernel_rfl) (by kernel_rfl) (by kernel_rfl) (fun _ _ _ h => h) (Or.inl ⟨by rfl, ?hy6⟩) (by assumption) ?rest6
  case hy6 => (intro w hSw; (try dsimp only at hSw); go_simp; (try with_reducible rfl))
  try simp only [Act.put, List.setIfInBounds_toArray, List.set_cons_zero, List.set_cons_succ]
  refine wpAnyH_ready (rs := [5, 7]) (by kernel_rfl) (by simp) ?_
  refine (AllReadyH.cons (o := { dst := some 8, op := _, type := _, pos := _, after := _, guard := _ }) rfl (fun K hK => ?_) (AllReadyH.cons (o := { dst := some 10, op := _, type := _, pos := _, after := _, guard := _ }) rfl (fun K hK => ?_) AllReadyH.nil))
  · go_simp
    refine hK.out _ _ ?_ (fun hHeld => ?_)
    · (first | exact keep_c c3 (.inl hgb) | exact c3 | exact q3 | exact k3 | go_keep)
    clear hK K
    try simp only [Act.put, List.setIfInBounds_toArray, List.set_cons_zero, List.set_cons_succ]
    refine wpAnyH_ready (rs := [7]) (by kernel_rfl) (by simp) ?_
    refine (AllReadyH.cons (o := { dst := some 10, op := _, type := _, pos := _, after := _, guard := _ }) rfl (fun K hK => ?_) AllReadyH.nil)
    · go_simp
      (go_at_call 68; refine (HL.out _ (by first | exact HH.out | exact HH.out.drew) (by first | exact HT.out | exact HT.out.below (Below.drew (Below.refl 2 w)) (Nat.le_refl 2))).mono ?_; rintro e w5 ⟨rfl, hx5⟩; have q3 : w5.cell? ⟨g, 0, none⟩ = _ := hx5.cell k3; have qO : w5.cell? ⟨bm, 106, none⟩ = some vo := hx5.cell kO; have HM5 := Lib.hid (HH.out.drew.ext hx5); have HX5 := Lib.hid ((Ext.refl w).drew.trans hx5); have hlt5 := HM5.out.lt; clear hx5)
      go_wp2_with fail
      refine hK.out _ _ ?_ (fun hHeld => ?_)
      · (first | exact keep_c c3 (.inl hgb) | exact c3 | exact q3 | exact k3 | go_keep)
      clear hK K
      try simp only [Act.put, List.setIfInBounds_toArray, List.set_cons_zero, List.set_cons_succ]
      refine wpAnyH_ready (rs := [8]) (by kernel_rfl) (by simp) ?_
      refine (AllReadyH.cons (o := { dst := some 11, op := _, type := _, pos := _, after := _, guard := _ }) rfl (fun K hK => ?_) AllReadyH.nil)
      · refine step_append_str (by rfl) _ _ _ _ (by rfl) bm 5 i0 Tryd.underlying23 Tryd.underlying9 hi hz0 hz1 hz2 vo s.output.length (s.output.map (Value.int .u8)) (by rfl) (by first | exact HM5.out.outputo | exact HM5.out.drew.outputo) (strOfNums ln) (by rfl) (by have := HL7.out; rw [HSZ.out]; unfold maxLen; omega) (by have := HL7.out; rw [HSZ.out]; omega) (by first | exact Nat.le_of_lt hlt5 | (simp; omega)) ?_
        intro v' w6 hto0
        have hto := RowTo.fix HBY.out hto0
        clear hto0
        obtain ⟨A', c', rfl, -⟩ := own_sl hto.own
        have HTO := Lib.hid hto
        have c3 := hto.cell HGV.out (p := ⟨g, 0, none⟩) q3
        have cO := hto.cell HNE.out (p := ⟨bm, 106, none⟩) qO
        have hb6 := hto.block hlt5 HNE.out
        have fO : w6.frozen? ⟨bm, 106, none⟩ = false := by have := HM5.out.frozen 106; unfold World.frozen? at this ⊢; rw [hb6]; exact this
        have hlt6 : bm < w6.heap.size := World.block_lt_of_cell? w6 _ cO
        clear hto hb6
        refine hK.out _ _ ?_ (fun hHeld => ?_)
        · (first | exact keep_c c3 (.inl hgb) | exact c3 | exact q3 | exact k3 | go_keep)
        clear hK K
        try simp only [Act.put, List.setIfInBounds_toArray, List.set_cons_zero, List.set_cons_succ]
        refine wpAnyH_take (i := 9) (oi := { dst := some 12, op := _, type := _, pos := _, after := _, guard := _ }) (v := ?v7) rfl (by kernel_rfl) (by kernel_rfl) (by kernel_rfl) (fun _ _ _ h => h) (Or.inl ⟨by rfl, ?hy7⟩) (by assumption) ?rest7
        case hy7 => (intro w hSw; (try dsimp only at hSw); go_simp; (try with_reducible rfl))
        try simp only [Act.put, List.setIfInBounds_toArray, List.set_cons_zero, List.set_cons_succ]
        refine wpAnyH_take (i := 10) (oi := { dst := some 13, op := _, type := _, pos := _, after := _, guard := _ }) (v := ?v8) rfl (by kernel_rfl) (by kernel_rfl) (by kernel_rfl) (fun _ _ _ h => h) (Or.inl ⟨by rfl, ?hy8⟩) (by assumption) ?rest8
        case hy8 => (intro w hSw; (try dsimp only at hSw); go_simp; (try with_reducible rfl))
        try simp only [Act.put, List.setIfInBounds_toArray, List.set_cons_zero, List.set_cons_succ]
        refine wpAnyH_take (i := 11) (oi := { dst := some 14, op := _, type := _, pos := _, after := _, guard := _ }) (v := ?v9) rfl (by kernel_rfl) (by kernel_rfl) (by kernel_rfl) (fun _ _ _ h => h) (Or.inl ⟨by rfl, ?hy9⟩) (by assumption) ?rest9
        case hy9 => (intro w hSw; (try dsimp only at hSw); go_simp; (try with_reducible rfl))
        try simp only [Act.put, List.setIfInBounds_toArray, List.set_cons_zero, List.set_cons_succ]
        refine wpAnyH_ready (rs := [12]) (by kernel_rfl) (by simp) ?_
        refine (AllReadyH.cons (o := { dst := none, op := _, type := _, pos := _, after := _, guard := _ }) rfl (fun K hK => ?_) AllReadyH.nil)
        · go_simp
          refine hK.out _ _ ?_ (fun hHeld => ?_)
          · (first | exact keep_c c3 (.inl hgb) | exact c3 | exact q3 | exact k3 | go_keep)
          clear hK K
          try simp only [Act.put, List.setIfInBounds_toArray, List.set_cons_zero, List.set_cons_succ]
          refine wpAnyH_done (by kernel_rfl) ?_ _
          go_wp2
          refine bodyPost_end (results_none Tryd.results111 _ _ _) rfl ?_
          have HB := Below.trans (Below.mono HX5.out (Nat.le_of_lt hlt)) (HTO.out.below (by first | exact HM5.out.outputo | exact HM5.out.drew.outputo) (Nat.le_of_lt hlt5))
          rw [← List.length_append]
          first | exact ⟨rfl, _, _, (HM5.out.newOut HTO.out).drew, Below.drew (Below.trans HB (below_set _ _ _ _))⟩ | exact ⟨rfl, _, _, HM5.out.newOut HTO.out, Below.trans HB (below_set _ _ _ _)⟩ | exact ⟨rfl, _, _, HM5.out.drew.newOut HTO.out, Below.trans HB (below_set _ _ _ _)⟩
  · go_simp
    (go_at_call 68; refine (HL.out _ (by first | exact HH.out | exact HH.out.drew) (by first | exact HT.out | exact HT.out.below (Below.drew (Below.refl 2 w)) (Nat.le_refl 2))).mono ?_; rintro e w5 ⟨rfl, hx5⟩; have q3 : w5.cell? ⟨g, 0, none⟩ = _ := hx5.cell k3; have qO : w5.cell? ⟨bm, 106, none⟩ = some vo := hx5.cell kO; have HM5 := Lib.hid (HH.out.drew.ext hx5); have HX5 := Lib.hid ((Ext.refl w).drew.trans hx5); have hlt5 := HM5.out.lt; clear hx5)
    go_wp2_with fail
    refine hK.out _ _ ?_ (fun hHeld => ?_)
    · (first | exact keep_c c3 (.inl hgb) | exact c3 | exact q3 | exact k3 | go_keep)
    clear hK K
    try simp only [Act.put, List.setIfInBounds_toArray, List.set_cons_zero, List.set_cons_succ]
    refine wpAnyH_ready (rs := [5]) (by kernel_rfl) (by simp) ?_
    refine (AllReadyH.cons (o := { dst := some 8, op := _, type := _, pos := _, after := _, guard := _ }) rfl (fun K hK => ?_) AllReadyH.nil)
    · go_simp
      refine hK.out _ _ ?_ (fun hHeld => ?_)
      · (first | exact keep_c c3 (.inl hgb) | exact c3 | exact q3 | exact k3 | go_keep)
      clear hK K
      try simp only [Act.put, List.setIfInBounds_toArray, List.set_cons_zero, List.set_cons_succ]
      refine wpAnyH_ready (rs := [8]) (by kernel_rfl) (by simp) ?_
      refine (AllReadyH.cons (o := { dst := some 11, op := _, type := _, pos := _, after := _, guard := _ }) rfl (fun K hK => ?_) AllReadyH.nil)
      · refine step_append_str (by rfl) _ _ _ _ (by rfl) bm 5 i0 Tryd.underlying23 Tryd.underlying9 hi hz0 hz1 hz2 vo s.output.length (s.output.map (Value.int .u8)) (by rfl) (by first | exact HM5.out.outputo | exact HM5.out.drew.outputo) (strOfNums ln) (by rfl) (by have := HL7.out; rw [HSZ.out]; unfold maxLen; omega) (by have := HL7.out; rw [HSZ.out]; omega) (by first | exact Nat.le_of_lt hlt5 | (simp; omega)) ?_
        intro v' w6 hto0
        have hto := RowTo.fix HBY.out hto0
        clear hto0
        obtain ⟨A', c', rfl, -⟩ := own_sl hto.own
        have HTO := Lib.hid hto
        have c3 := hto.cell HGV.out (p := ⟨g, 0, none⟩) q3
        have cO := hto.cell HNE.out (p := ⟨bm, 106, none⟩) qO
        have hb6 := hto.block hlt5 HNE.out
        have fO : w6.frozen? ⟨bm, 106, none⟩ = false := by have := HM5.out.frozen 106; unfold World.frozen? at this ⊢; rw [hb6]; exact this
        have hlt6 : bm < w6.heap.size := World.block_lt_of_cell? w6 _ cO
        clear hto hb6
        refine hK.out _ _ ?_ (fun hHeld => ?_)
        · (first | exact keep_c c3 (.inl hgb) | exact c3 | exact q3 | exact k3 | go_keep)
        clear hK K
        try simp only [Act.put, List.setIfInBounds_toArray, List.set_cons_zero, List.set_cons_succ]
        refine wpAnyH_take (i := 9) (oi := { dst := some 12, op := _, type := _, pos := _, after := _, guard := _ }) (v := ?v10) rfl (by kernel_rfl) (by kernel_rfl) (by kernel_rfl) (fun _ _ _ h => h) (Or.inl ⟨by rfl, ?hy10⟩) (by assumption) ?rest10
        case hy10 => (intro w hSw; (try dsimp only at hSw); go_simp; (try with_reducible rfl))
        try simp only [Act.put, List.setIfInBounds_toArray, List.set_cons_zero, List.set_cons_succ]
        refine wpAnyH_take (i := 10) (oi := { dst := some 13, op := _, type := _, pos := _, after := _, guard := _ }) (v := ?v11) rfl (by kernel_rfl) (by kernel_rfl) (by kernel_rfl) (fun _ _ _ h => h) (Or.inl ⟨by rfl, ?hy11⟩) (by assumption) ?rest11
        case hy11 => (intro w hSw; (try dsimp only at hSw); go_simp; (try with_reducible rfl))
        try simp only [Act.put, List.setIfInBounds_toArray, List.set_cons_zero, List.set_cons_succ]
        refine wpAnyH_take (i := 11) (oi := { dst := some 14, op := _, type := _, pos := _, after := _, guard := _ }) (v := ?v12) rfl (by kernel_rfl) (by kernel_rfl) (by kernel_rfl) (fun _ _ _ h => h) (Or.inl ⟨by rfl, ?hy12⟩) (by assumption) ?rest12
        case hy12 => (intro w hSw; (try dsimp only at hSw); go_simp; (try with_reducible rfl))
        try simp only [Act.put, List.setIfInBounds_toArray, List.set_cons_zero, List.set_cons_succ]
        refine wpAnyH_ready (rs := [12]) (by kernel_rfl) (by simp) ?_
        refine (AllReadyH.cons (o := { dst := none, op := _, type := _, pos := _, after := _, guard := _ }) rfl (fun K hK => ?_) AllReadyH.nil)
        · go_simp
          refine hK.out _ _ ?_ (fun hHeld => ?_)
          · (first | exact keep_c c3 (.inl hgb) | exact c3 | exact q3 | exact k3 | go_keep)
          clear hK K
          try simp only [Act.put, List.setIfInBounds_toArray, List.set_cons_zero, List.set_cons_succ]
          refine wpAnyH_done (by kernel_rfl) ?_ _
          go_wp2
          refine bodyPost_end (results_none Tryd.results111 _ _ _) rfl ?_
          have HB := Below.trans (Below.mono HX5.out (Nat.le_of_lt hlt)) (HTO.out.below (by first | exact HM5.out.outputo | exact HM5.out.drew.outputo) (Nat.le_of_lt hlt5))
          rw [← List.length_append]
          first | exact ⟨rfl, _, _, (HM5.out.newOut HTO.out).drew, Below.drew (Below.trans HB (below_set _ _ _ _))⟩ | exact ⟨rfl, _, _, HM5.out.newOut HTO.out, Below.trans HB (below_set _ _ _ _)⟩ | exact ⟨rfl, _, _, HM5.out.drew.newOut HTO.out, Below.trans HB (below_set _ _ _ _)⟩
end
end Go.Proofs.YtbaahbpianingaaDoor
