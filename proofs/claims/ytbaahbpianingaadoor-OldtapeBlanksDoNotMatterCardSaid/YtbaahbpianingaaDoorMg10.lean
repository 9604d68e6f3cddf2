import Derived.Test.YtbaahbpianingaaDoorMg9
import Derived.Laws.EntriesVeiled
import Derived.Deep.DeepCutAuto
import Derived.Outline
namespace Go.Proofs.YtbaahbpianingaaDoor
open Go Go.Proofs Go.RowKit
open Acc (Dk red five)
set_option maxHeartbeats 4000000
set_option maxRecDepth 100000
theorem step_append_str {P : Program} {w : World} {ops : Array Oper} {o : Oper} {a : Act} {K : Act → World → Prop} {Q : Exit → Act → World → Prop} {E : Prop} (hgd : o.guard = none) (sl x : Operand) (t u : TypeId)
    (ho : o.op = .call { callee := .builtin .append, args := #[sl, x], argTypes := #[t, u] })
    (base : Nat) (e : TypeId) (i : TypeInfo) (ht : P.underlying t = some (.slice e)) (hu : P.underlying u = some .string) (hi : P.info? e = some i) (hz : i.zero = some (.int .u8 0)) (hsize : i.size = 1) (hby : i.bytes = 1)
    (v : Value) (n : Nat) (xs : List Value) (hs : a.eval sl = v) (hown : w.ownsRow base e 1 v n xs) (s : ByteArray) (hx : a.eval x = .string s)
    (h63 : n + s.size ≤ maxLen) (hbytes : n + s.size ≤ 140737488355328) (hbase : base ≤ w.heap.size)
    (h : ∀ v' w', RowTo w w' base e v v' (n + s.size) (xs ++ Lib.strCells s) → K (a.put o.dst v') w') :
    if Region.wanted o (yielded ops a.tmps) = true then Oper.wp P o a w K Q else E := by
  have hw : Region.wanted o (yielded ops a.tmps) = true := by simp [Region.wanted, hgd]
  rw [if_pos hw]
  obtain ⟨v', w', hrun, h2⟩ := run_append_str (P := P) w base t u o.type e i ht hu hi hz hsize hby v n xs hown s h63 hbytes hbase
  unfold Oper.wp execOp
  simp only [ho, resolve, invoke, builtin, Sem.run_bind, Sem.run_pure, Result.andThen_ok, List.map_toArray, List.map_cons, List.map_nil, hs, hx, hrun]
  exact h v' w' h2
theorem RowTo.cell {w w1 : World} {bm : Nat} {e : TypeId} {v v' : Value} {n : Nat} {xs : List Value} (h : RowTo w w1 bm e v v' n xs) {p : Addr} {u : Value} (hne : v.ownBlock ≠ some p.block) (hc : w.cell? p = some u) : w1.cell? p = some u := by
  rw [World.cell?_of_block (w := w) (h.block (World.block_lt_of_cell? w p hc) hne)]
  exact hc
theorem RowTo.below {w w1 : World} {bm : Nat} {e : TypeId} {v v' : Value} {n m : Nat} {xs ys : List Value} (h : RowTo w w1 bm e v v' n xs) (ho : w.ownsRow bm e 1 v m ys) (hb : bm ≤ w.heap.size) : Below bm w w1 := by
  refine ⟨h.grown.os, h.grown.tape, h.grown.output, h.grown.size, fun b hlt => h.block (by omega) fun q => ?_⟩
  have := (own_lt ho q).1
  omega
theorem RowTo.fix {w w1 : World} {bm : Nat} {v v' : Value} {l m : List Int} (hm : Byt m) (h : RowTo w w1 bm 5 v v' (l.length + (strOfNums m).size) (l.map (Value.int .u8) ++ Lib.strCells (strOfNums m))) : RowTo w w1 bm 5 v v' (l ++ m).length ((l ++ m).map (Value.int .u8)) := by
  rw [strOfNums_size, strCells_nums hm, ← List.map_append, ← List.length_append] at h
  exact h
section
variable {w : World} {bm g : Nat} {s : Dk} {cs : Array Value} {vo : Value}
theorem eff14 (h : MachIs w bm s cs vo) (hc : Caught w g bm) (ok : OkSt s) (ht : Tabs w) (hg : vo.ownBlock ≠ some g) (ho : s.output.length ≤ 1000) (a : Nat) : Calls Tryd.prog 111 #[.int .i64 (a : Int), .pointer (some ⟨g, 0, none⟩)] w (EffPost w bm (Acc.effF s 14 a)) := by
  have he : Acc.effF s 14 a = { s with output := s.output ++ Acc.lineF s.a } := by simp [Acc.effF]
  rw [he]
  obtain ⟨i0, hi, hz0, hz1, hz2⟩ := info_parts infoB
  have HH := Lib.hid h
  have HT := Lib.hid ht
  have HGV := Lib.hid hg
  have hlt := h.lt
  have k3 : w.cell? ⟨g, 0, none⟩ = some (.pointer (some ⟨bm, 0, none⟩)) := hc
  have hgb := hc.ne h
  have hl7 := line_len ok.ok.a
  have HL7 := Lib.hid hl7
  have HL := Lib.hid (fun W (hW : MachIs W bm s cs vo) (hT : Tabs W) => line_c hW ok.ok.a hT)
  have HBY := Lib.hid (signed_byt' s.a)
  have HNE := Lib.hid (own_ne h.outputo h.blk (by decide))
  have kO : w.cell? ⟨bm, 106, none⟩ = some vo := by rw [h.cell, h.output]
  have hsz := strOfNums_size (Acc.lineF s.a)
  have HSZ := Lib.hid hsz
  clear he hsz hl7
  generalize Acc.lineF s.a = ln at *
  clear h hc ht hg
  go_enter Tryd.func111, Tryd.ntmps111
  refine wp_region_held_drew (S := (fun w' => w'.cell? ⟨g, 0, none⟩ = some (.pointer (some ⟨bm, 0, none⟩)))) (by kernel_rfl) ?_ (fun hHeld => ?_)
  · (first | exact keep_c c3 (.inl hgb) | exact c3 | exact q3 | exact k3 | go_keep)
  refine wpAnyH_take (i := 0) (oi := { dst := some 3, op := _, type := _, pos := _, after := _, guard := _ }) (v := ?v1) rfl (by kernel_rfl) (by kernel_rfl) (by kernel_rfl) (fun _ _ _ h => h) (Or.inl ⟨by rfl, ?hy1⟩) (by assumption) ?rest1
  case hy1 => (intro w hSw; (try dsimp only at hSw); go_simp; (try with_reducible rfl))
  try simp only [Act.put, List.setIfInBounds_toArray, List.set_cons_zero, List.set_cons_succ]
  refine wpAnyH_take (i := 1) (oi := { dst := some 4, op := _, type := _, pos := _, after := _, guard := _ }) (v := ?v2) rfl (by kernel_rfl) (by kernel_rfl) (by kernel_rfl) (fun _ _ _ h => h) (Or.inl ⟨by rfl, ?hy2⟩) (by assumption) ?rest2
  case hy2 => (intro w hSw; (try dsimp only at hSw); go_simp; (try with_reducible rfl))
  try simp only [Act.put, List.setIfInBounds_toArray, List.set_cons_zero, List.set_cons_succ]
  refine wpAnyH_take (i := 2) (oi := { dst := some 5, op := _, type := _, pos := _, after := _, guard := _ }) (v := ?v3) rfl (by kernel_rfl) (by kernel_rfl) (by kernel_rfl) (fun _ _ _ h => h) (Or.inl ⟨by rfl, ?hy3⟩) (by assumption) ?rest3
  case hy3 => (intro w hSw; (try dsimp only at hSw); go_simp; (try with_reducible rfl))
  try simp only [Act.put, List.setIfInBounds_toArray, List.set_cons_zero, List.set_cons_succ]
  refine wpAnyH_take (i := 3) (oi := { dst := some 6, op := _, type := _, pos := _, after := _, guard := _ }) (v := ?v4) rfl (by kernel_rfl) (by kernel_rfl) (by kernel_rfl) (fun _ _ _ h => h) (Or.inl ⟨by rfl, ?hy4⟩) (by assumption) ?rest4
  case hy4 => (intro w hSw; (try dsimp only at hSw); go_simp; (try with_reducible rfl))
  try simp only [Act.put, List.setIfInBounds_toArray, List.set_cons_zero, List.set_cons_succ]
  refine wpAnyH_take (i := 4) (oi := { dst := some 7, op := _, type := _, pos := _, after := _, guard := _ }) (v := ?v5) rfl (by kernel_rfl) (by kernel_rfl) (by kernel_rfl) (fun _ _ _ h => h) (Or.inl ⟨by rfl, ?hy5⟩) (by assumption) ?rest5
  case hy5 => (intro w hSw; (try dsimp only at hSw); go_simp; (try with_reducible rfl))
  try simp only [Act.put, List.setIfInBounds_toArray, List.set_cons_zero, List.set_cons_succ]
  refine wpAnyH_take (i := 6) (oi := { dst := some 9, op := _, type := _, pos := _, after := _, guard := _ }) (v := ?v6) rfl (by kernel_rfl) (by kernel_rfl) (by kernel_rfl) (fun _ _ _ h => h) (Or.inl ⟨by rfl, ?hy6⟩) (by assumption) ?rest6
  case hy6 => (intro w hSw; (try dsimp only at hSw); go_simp; (try with_reducible rfl))
  try simp only [Act.put, List.setIfInBounds_toArray, List.set_cons_zero, List.set_cons_succ]
  refine wpAnyH_ready (rs := [5, 7]) (by kernel_rfl) (by simp) ?_
  refine (AllReadyH.cons (o := { dst := some 8, op := _, type := _, pos := _, after := _, guard := _ }) rfl (fun K hK => ?_) (AllReadyH.cons (o := { dst := some 10, op := _, type := _, pos := _, after := _, guard := _ }) rfl (fun K hK => ?_) AllReadyH.nil))
  · go_simp
    refine hK.out _ _ ?_ (fun hHeld => ?_)
    · (first | exact keep_c c3 (.inl hgb) | exact c3 | exact q3 | exact k3 | go_keep)
    clear hK K
    try simp only [Act.put, List.setIfInBounds_toArray, List.set_cons_zero, List.set_cons_succ]
    refine wpAnyH_ready (rs := [7]) (by kernel_rfl) (by simp) ?_
    refine (AllReadyH.cons (o := { dst := some 10, op := _, type := _, pos := _, after := _, guard := _ }) rfl (fun K hK => ?_) AllReadyH.nil)
    · go_simp
      (go_at_call 68; refine (HL.out _ (by first | exact HH.out | exact HH.out.drew) (by first | exact HT.out | exact HT.out.below (Below.drew (Below.refl 2 w)) (Nat.le_refl 2))).mono ?_; rintro e w5 ⟨rfl, hx5⟩; have q3 : w5.cell? ⟨g, 0, none⟩ = _ := hx5.cell k3; have qO : w5.cell? ⟨bm, 106, none⟩ = some vo := hx5.cell kO; have HM5 := Lib.hid (HH.out.drew.ext hx5); have HX5 := Lib.hid ((Ext.refl w).drew.trans hx5); have hlt5 := HM5.out.lt; clear hx5)
      go_wp2_with fail
      refine hK.out _ _ ?_ (fun hHeld => ?_)
      · (first | exact keep_c c3 (.inl hgb) | exact c3 | exact q3 | exact k3 | go_keep)
      clear hK K
      try simp only [Act.put, List.setIfInBounds_toArray, List.set_cons_zero, List.set_cons_succ]
      refine wpAnyH_ready (rs := [8]) (by kernel_rfl) (by simp) ?_
      refine (AllReadyH.cons (o := { dst := some 11, op := _, type := _, pos := _, after := _, guard := _ }) rfl (fun K hK => ?_) AllReadyH.nil)
      · refine step_append_str (by rfl) _ _ _ _ (by rfl) bm 5 i0 Tryd.underlying23 Tryd.underlying9 hi hz0 hz1 hz2 vo s.output.length (s.output.map (Value.int .u8)) (by rfl) (by first | exact HM5.out.outputo | exact HM5.out.drew.outputo) (strOfNums ln) (by rfl) (by have := HL7.out; rw [HSZ.out]; unfold maxLen; omega) (by have := HL7.out; rw [HSZ.out]; omega) (by first | exact Nat.le_of_lt hlt5 | (simp; omega)) ?_
        intro v' w6 hto0
        have hto := RowTo.fix HBY.out hto0
        clear hto0
        obtain ⟨A', c', rfl, -⟩ := own_sl hto.own
        have HTO := Lib.hid hto
        have c3 := hto.cell HGV.out (p := ⟨g, 0, none⟩) q3
        have cO := hto.cell HNE.out (p := ⟨bm, 106, none⟩) qO
        have hb6 := hto.block hlt5 HNE.out
        have fO : w6.frozen? ⟨bm, 106, none⟩ = false := by have := HM5.out.frozen 106; unfold World.frozen? at this ⊢; rw [hb6]; exact this
        have hlt6 : bm < w6.heap.size := World.block_lt_of_cell? w6 _ cO
        clear hto hb6
        refine hK.out _ _ ?_ (fun hHeld => ?_)
        · (first | exact keep_c c3 (.inl hgb) | exact c3 | exact q3 | exact k3 | go_keep)
        clear hK K
        try simp only [Act.put, List.setIfInBounds_toArray, List.set_cons_zero, List.set_cons_succ]
        refine wpAnyH_take (i := 9) (oi := { dst := some 12, op := _, type := _, pos := _, after := _, guard := _ }) (v := ?v7) rfl (by kernel_rfl) (by kernel_rfl) (by kernel_rfl) (fun _ _ _ h => h) (Or.inl ⟨by rfl, ?hy7⟩) (by assumption) ?rest7
        case hy7 => (intro w hSw; (try dsimp only at hSw); go_simp; (try with_reducible rfl))
        try simp only [Act.put, List.setIfInBounds_toArray, List.set_cons_zero, List.set_cons_succ]
        refine wpAnyH_take (i := 10) (oi := { dst := some 13, op := _, type := _, pos := _, after := _, guard := _ }) (v := ?v8) rfl (by kernel_rfl) (by kernel_rfl) (by kernel_rfl) (fun _ _ _ h => h) (Or.inl ⟨by rfl, ?hy8⟩) (by assumption) ?rest8
        case hy8 => (intro w hSw; (try dsimp only at hSw); go_simp; (try with_reducible rfl))
        try simp only [Act.put, List.setIfInBounds_toArray, List.set_cons_zero, List.set_cons_succ]
        refine wpAnyH_take (i := 11) (oi := { dst := some 14, op := _, type := _, pos := _, after := _, guard := _ }) (v := ?v9) rfl (by kernel_rfl) (by kernel_rfl) (by kernel_rfl) (fun _ _ _ h => h) (Or.inl ⟨by rfl, ?hy9⟩) (by assumption) ?rest9
        case hy9 => (intro w hSw; (try dsimp only at hSw); go_simp; (try with_reducible rfl))
        try simp only [Act.put, List.setIfInBounds_toArray, List.set_cons_zero, List.set_cons_succ]
        refine wpAnyH_ready (rs := [12]) (by kernel_rfl) (by simp) ?_
        refine (AllReadyH.cons (o := { dst := none, op := _, type := _, pos := _, after := _, guard := _ }) rfl (fun K hK => ?_) AllReadyH.nil)
        · go_simp
          refine hK.out _ _ ?_ (fun hHeld => ?_)
          · (first | exact keep_c c3 (.inl hgb) | exact c3 | exact q3 | exact k3 | go_keep)
          clear hK K
          try simp only [Act.put, List.setIfInBounds_toArray, List.set_cons_zero, List.set_cons_succ]
          refine wpAnyH_done (by kernel_rfl) ?_ _
          go_wp2
          refine bodyPost_end (results_none Tryd.results111 _ _ _) rfl ?_
          have HB := Below.trans (Below.mono HX5.out (Nat.le_of_lt hlt)) (HTO.out.below (by first | exact HM5.out.outputo | exact HM5.out.drew.outputo) (Nat.le_of_lt hlt5))
          rw [← List.length_append]
          first | exact ⟨rfl, _, _, (HM5.out.newOut HTO.out).drew, Below.drew (Below.trans HB (below_set _ _ _ _))⟩ | exact ⟨rfl, _, _, HM5.out.newOut HTO.out, Below.trans HB (below_set _ _ _ _)⟩ | exact ⟨rfl, _, _, HM5.out.drew.newOut HTO.out, Below.trans HB (below_set _ _ _ _)⟩
  · go_simp
    (go_at_call 68; refine (HL.out _ (by first | exact HH.out | exact HH.out.drew) (by first | exact HT.out | exact HT.out.below (Below.drew (Below.refl 2 w)) (Nat.le_refl 2))).mono ?_; rintro e w5 ⟨rfl, hx5⟩; have q3 : w5.cell? ⟨g, 0, none⟩ = _ := hx5.cell k3; have qO : w5.cell? ⟨bm, 106, none⟩ = some vo := hx5.cell kO; have HM5 := Lib.hid (HH.out.drew.ext hx5); have HX5 := Lib.hid ((Ext.refl w).drew.trans hx5); have hlt5 := HM5.out.lt; clear hx5)
    go_wp2_with fail
    refine hK.out _ _ ?_ (fun hHeld => ?_)
    · (first | exact keep_c c3 (.inl hgb) | exact c3 | exact q3 | exact k3 | go_keep)
    clear hK K
    try simp only [Act.put, List.setIfInBounds_toArray, List.set_cons_zero, List.set_cons_succ]
    refine wpAnyH_ready (rs := [5]) (by kernel_rfl) (by simp) ?_
    refine (AllReadyH.cons (o := { dst := some 8, op := _, type := _, pos := _, after := _, guard := _ }) rfl (fun K hK => ?_) AllReadyH.nil)
    · go_simp
      refine hK.out _ _ ?_ (fun hHeld => ?_)
      · (first | exact keep_c c3 (.inl hgb) | exact c3 | exact q3 | exact k3 | go_keep)
      clear hK K
      try simp only [Act.put, List.setIfInBounds_toArray, List.set_cons_zero, List.set_cons_succ]
      refine wpAnyH_ready (rs := [8]) (by kernel_rfl) (by simp) ?_
      refine (AllReadyH.cons (o := { dst := some 11, op := _, type := _, pos := _, after := _, guard := _ }) rfl (fun K hK => ?_) AllReadyH.nil)
      · refine step_append_str (by rfl) _ _ _ _ (by rfl) bm 5 i0 Tryd.underlying23 Tryd.underlying9 hi hz0 hz1 hz2 vo s.output.length (s.output.map (Value.int .u8)) (by rfl) (by first | exact HM5.out.outputo | exact HM5.out.drew.outputo) (strOfNums ln) (by rfl) (by have := HL7.out; rw [HSZ.out]; unfold maxLen; omega) (by have := HL7.out; rw [HSZ.out]; omega) (by first | exact Nat.le_of_lt hlt5 | (simp; omega)) ?_
        intro v' w6 hto0
        have hto := RowTo.fix HBY.out hto0
        clear hto0
        obtain ⟨A', c', rfl, -⟩ := own_sl hto.own
        have HTO := Lib.hid hto
        have c3 := hto.cell HGV.out (p := ⟨g, 0, none⟩) q3
        have cO := hto.cell HNE.out (p := ⟨bm, 106, none⟩) qO
        have hb6 := hto.block hlt5 HNE.out
        have fO : w6.frozen? ⟨bm, 106, none⟩ = false := by have := HM5.out.frozen 106; unfold World.frozen? at this ⊢; rw [hb6]; exact this
        have hlt6 : bm < w6.heap.size := World.block_lt_of_cell? w6 _ cO
        clear hto hb6
        refine hK.out _ _ ?_ (fun hHeld => ?_)
        · (first | exact keep_c c3 (.inl hgb) | exact c3 | exact q3 | exact k3 | go_keep)
        clear hK K
        try simp only [Act.put, List.setIfInBounds_toArray, List.set_cons_zero, List.set_cons_succ]
        refine wpAnyH_take (i := 9) (oi := { dst := some 12, op := _, type := _, pos := _, after := _, guard := _ }) (v := ?v10) rfl (by kernel_rfl) (by kernel_rfl) (by kernel_rfl) (fun _ _ _ h => h) (Or.inl ⟨by rfl, ?hy10⟩) (by assumption) ?rest10
        case hy10 => (intro w hSw; (try dsimp only at hSw); go_simp; (try with_reducible rfl))
        try simp only [Act.put, List.setIfInBounds_toArray, List.set_cons_zero, List.set_cons_succ]
        refine wpAnyH_take (i := 10) (oi := { dst := some 13, op := _, type := _, pos := _, after := _, guard := _ }) (v := ?v11) rfl (by kernel_rfl) (by kernel_rfl) (by kernel_rfl) (fun _ _ _ h => h) (Or.inl ⟨by rfl, ?hy11⟩) (by assumption) ?rest11
        case hy11 => (intro w hSw; (try dsimp only at hSw); go_simp; (try with_reducible rfl))
        try simp only [Act.put, List.setIfInBounds_toArray, List.set_cons_zero, List.set_cons_succ]
        refine wpAnyH_take (i := 11) (oi := { dst := some 14, op := _, type := _, pos := _, after := _, guard := _ }) (v := ?v12) rfl (by kernel_rfl) (by kernel_rfl) (by kernel_rfl) (fun _ _ _ h => h) (Or.inl ⟨by rfl, ?hy12⟩) (by assumption) ?rest12
        case hy12 => (intro w hSw; (try dsimp only at hSw); go_simp; (try with_reducible rfl))
        try simp only [Act.put, List.setIfInBounds_toArray, List.set_cons_zero, List.set_cons_succ]
        refine wpAnyH_ready (rs := [12]) (by kernel_rfl) (by simp) ?_
        refine (AllReadyH.cons (o := { dst := none, op := _, type := _, pos := _, after := _, guard := _ }) rfl (fun K hK => ?_) AllReadyH.nil)
        · go_simp
          refine hK.out _ _ ?_ (fun hHeld => ?_)
          · (first | exact keep_c c3 (.inl hgb) | exact c3 | exact q3 | exact k3 | go_keep)
          clear hK K
          try simp only [Act.put, List.setIfInBounds_toArray, List.set_cons_zero, List.set_cons_succ]
          refine wpAnyH_done (by kernel_rfl) ?_ _
          go_wp2
          refine bodyPost_end (results_none Tryd.results111 _ _ _) rfl ?_
          have HB := Below.trans (Below.mono HX5.out (Nat.le_of_lt hlt)) (HTO.out.below (by first | exact HM5.out.outputo | exact HM5.out.drew.outputo) (Nat.le_of_lt hlt5))
          rw [← List.length_append]
          first | exact ⟨rfl, _, _, (HM5.out.newOut HTO.out).drew, Below.drew (Below.trans HB (below_set _ _ _ _))⟩ | exact ⟨rfl, _, _, HM5.out.newOut HTO.out, Below.trans HB (below_set _ _ _ _)⟩ | exact ⟨rfl, _, _, HM5.out.drew.newOut HTO.out, Below.trans HB (below_set _ _ _ _)⟩
end
end Go.Proofs.YtbaahbpianingaaDoor
namespace Go.Proofs.YtbaahbpianingaaDoor
open Go Go.Proofs Go.RowKit
open Acc (Dk red five)
set_option maxHeartbeats 4000000
set_option maxRecDepth 100000
/-- The operations, bound to the machine's variable. -/
def effA (g : Nat) : Array Value := #[.func (.func 93) #[] #[.pointer (some ⟨g, 0, none⟩)], .func (.func 94) #[] #[.pointer (some ⟨g, 0, none⟩)], .func (.func 95) #[] #[.pointer (some ⟨g, 0, none⟩)], .func (.func 96) #[] #[.pointer (some ⟨g, 0, none⟩)], .func (.func 98) #[] #[.pointer (some ⟨g, 0, none⟩)], .func (.func 99) #[] #[.pointer (some ⟨g, 0, none⟩)], .func (.func 101) #[] #[.pointer (some ⟨g, 0, none⟩)], .func (.func 102) #[] #[.pointer (some ⟨g, 0, none⟩)], .func (.func 104) #[] #[.pointer (some ⟨g, 0, none⟩)], .func (.func 105) #[] #[.pointer (some ⟨g, 0, none⟩)], .func (.func 106) #[] #[.pointer (some ⟨g, 0, none⟩)], .func (.func 107) #[] #[.pointer (some ⟨g, 0, none⟩)], .func (.func 108) #[] #[.pointer (some ⟨g, 0, none⟩)], .func (.func 109) #[] #[.pointer (some ⟨g, 0, none⟩)], .func (.func 111) #[] #[.pointer (some ⟨g, 0, none⟩)], .func (.func 112) #[] #[.pointer (some ⟨g, 0, none⟩)], .func (.func 114) #[] #[.pointer (some ⟨g, 0, none⟩)], .func (.func 115) #[] #[.pointer (some ⟨g, 0, none⟩)]]
def zeroEff : Array Value := #[.nilFunc, .nilFunc, .nilFunc, .nilFunc, .nilFunc, .nilFunc, .nilFunc, .nilFunc, .nilFunc, .nilFunc, .nilFunc, .nilFunc, .nilFunc, .nilFunc, .nilFunc, .nilFunc, .nilFunc, .nilFunc]
theorem run_build_eff (g : Nat) (w : World) : (Instr.build 101 #[(0, .func (.func 93) #[] #[.pointer (some ⟨g, 0, none⟩)]), (1, .func (.func 94) #[] #[.pointer (some ⟨g, 0, none⟩)]), (2, .func (.func 95) #[] #[.pointer (some ⟨g, 0, none⟩)]), (3, .func (.func 96) #[] #[.pointer (some ⟨g, 0, none⟩)]), (4, .func (.func 98) #[] #[.pointer (some ⟨g, 0, none⟩)]), (5, .func (.func 99) #[] #[.pointer (some ⟨g, 0, none⟩)]), (6, .func (.func 101) #[] #[.pointer (some ⟨g, 0, none⟩)]), (7, .func (.func 102) #[] #[.pointer (some ⟨g, 0, none⟩)]), (8, .func (.func 104) #[] #[.pointer (some ⟨g, 0, none⟩)]), (9, .func (.func 105) #[] #[.pointer (some ⟨g, 0, none⟩)]), (10, .func (.func 106) #[] #[.pointer (some ⟨g, 0, none⟩)]), (11, .func (.func 107) #[] #[.pointer (some ⟨g, 0, none⟩)]), (12, .func (.func 108) #[] #[.pointer (some ⟨g, 0, none⟩)]), (13, .func (.func 109) #[] #[.pointer (some ⟨g, 0, none⟩)]), (14, .func (.func 111) #[] #[.pointer (some ⟨g, 0, none⟩)]), (15, .func (.func 112) #[] #[.pointer (some ⟨g, 0, none⟩)]), (16, .func (.func 114) #[] #[.pointer (some ⟨g, 0, none⟩)]), (17, .func (.func 115) #[] #[.pointer (some ⟨g, 0, none⟩)])]).run Tryd.prog w = .ok (.agg (effA g)) w := by kernel_rfl
theorem size_eff (g : Nat) : (Tryd.prog.info? 101).map (·.size) = some (effA g).size := by kernel_rfl
theorem one_eff (g : Nat) : (effA g).all (·.oneCell') = true := by kernel_rfl
theorem effects_c (bm : Nat) (w : World) : Calls Tryd.prog 69 #[.pointer (some ⟨bm, 0, none⟩)] w fun e w' => e = .returned (.agg (effA w.heap.size)) ∧ Ext w w' ∧ Caught w' w.heap.size bm := by
  have hb := fun W => run_build_eff w.heap.size W
  go_enter Tryd.func69, Tryd.ntmps69
  go_wp2_with (refine wpList_store_row rfl 101 _ _ rfl (w.heap.size + 1) (effA w.heap.size) rfl rfl 101 _ (heap_alloc2_new w _ _) (size_eff _) rfl (one_eff _) ?_)
  have h1 := heap_alloc2_new w (.cells #[.pointer (some ⟨bm, 0, none⟩)] 73) (.cells zeroEff 101)
  refine bodyPost_ret (results_cell_row Tryd.results69 _ _ (w.heap.size + 1) 101 (effA w.heap.size) (0, 0) _ rfl (setRow_heap _ _ _ _ _ _ h1) Tryd.underlying101 rfl (size_eff _)) rfl ⟨rfl, ?_, ?_⟩
  · exact Below.trans (((Ext.refl w).alloc _).alloc _) ⟨rfl, rfl, rfl, by simp [World.setRow], fun k hk => setRow_other _ _ k _ (by omega)⟩
  · unfold Caught
    rw [World.cell?_of_block (setRow_other _ _ _ _ (by show w.heap.size ≠ w.heap.size + 1; omega)), World.cell?_of_block (Below.heap_alloc _ _ _ (by show w.heap.size < (w.alloc _).heap.size; simp))]
    exact cell_of_row _ _ 0 _ _ _ (heap_alloc_new w _)
/-- The operations' values, bound to a new variable that holds the machine. -/
def EffsRet (w : World) (bm : Nat) (e : Ending) (w' : World) : Prop := ∃ g, e = .returned (.agg (effA g)) ∧ w.heap.size ≤ g ∧ Ext w w' ∧ Caught w' g bm
theorem effs_c (bm : Nat) (w : World) : Calls Tryd.prog 69 #[.pointer (some ⟨bm, 0, none⟩)] w (EffsRet w bm) :=
  (effects_c bm w).mono fun _ _ ⟨h1, h2, h3⟩ => ⟨_, h1, Nat.le_refl _, h2, h3⟩
theorem ok_next {s : Dk} (ok : OkSt s) {i : Nat} (hi : i < 100) (hat : s.at_ = i) : OkSt { s with at_ := s.at_ + 1 } :=
  ⟨{ ok.ok with at_ := by show 0 ≤ s.at_ + 1 ∧ s.at_ + 1 ≤ 100; omega }, ok.outb⟩
end Go.Proofs.YtbaahbpianingaaDoor
namespace Go.Proofs.YtbaahbpianingaaDoor
open Go Go.Proofs Go.RowKit
open Acc (Dk red five)
set_option maxHeartbeats 4000000
set_option maxRecDepth 100000
theorem below_drew (w : World) (bm : Nat) (i : Nat) (u : Value) : Below bm w ((w.drew).setCell ⟨bm, i, none⟩ u) := below_setD w bm i u
section
variable {w : World} {bm : Nat} {s : Dk} {cs : Array Value} {vo : Value}
theorem stop_at (h : MachIs w bm s cs vo) (hat : s.at_ = 100) : Calls Tryd.prog 44 #[.pointer (some ⟨bm, 0, none⟩)] w (EffPost w bm { s with stop := 3 }) := by
  have HH := Lib.hid h
  have hlt := h.lt
  have kS := h.cStop
  have fS := h.frozen 107
  have k0 : w.cell? ⟨bm, 100, none⟩ = some (.int .i64 100) := by rw [h.cAt, hat]
  clear h hat
  go_enter Tryd.func44, Tryd.ntmps44
  go_wp2
  all_goals refine bodyPost_end (results_none Tryd.results44 _ _ _) rfl ?_
  all_goals first | exact ⟨rfl, _, _, (HH.out.setStop _), below_set _ _ _ _⟩ | exact ⟨rfl, _, _, HH.out.drew.setStop _, below_setD _ _ _ _⟩ | exact ⟨rfl, _, _, (HH.out.setStop _).drew, below_setE _ _ _ _⟩
theorem stop_bad (h : MachIs w bm s cs vo) (i : Nat) (hi : i < 100) (hat : s.at_ = i) (W : Int) (hw : Acc.wordAt s i = W) (w5 : -99999 ≤ W ∧ W ≤ 99999) (hb : W < 0 ∨ 20000 ≤ W ∨ 0 ≤ W ∧ W < 20000 ∧ 18 ≤ W / 100 % 100) : Calls Tryd.prog 44 #[.pointer (some ⟨bm, 0, none⟩)] w (EffPost w bm { s with stop := 2 }) := by
  have HH := Lib.hid h
  have hlt := h.lt
  have kS := h.cStop
  have fS := h.frozen 107
  have k0 : w.cell? ⟨bm, 100, none⟩ = some (.int .i64 (i : Int)) := by rw [h.cAt, hat]
  have kW : w.cell? ⟨bm, i, none⟩ = some (.int .i64 W) := by have := h.cWord hi; rw [← hw]; simpa [Acc.wordAt] using this
  have i0 : (0 : Int) ≤ (i : Int) := by omega
  have i1 : (i : Int) < 100 := by omega
  have hne : ((i : Int) == 100) = false := by simp; omega
  clear h hat hw
  rcases hb with hb | hb | ⟨hb1, hb2, hb3⟩
  all_goals go_enter Tryd.func44, Tryd.ntmps44
  all_goals go_wp2
  all_goals go_region_held3 (fun w' => w'.cell? ⟨bm, 100, none⟩ = some (.int .i64 (i : Int)) ∧ w'.cell? ⟨bm, i, none⟩ = some (.int .i64 W)) (go_keep) (fail)
  all_goals go_wp2
  all_goals refine bodyPost_end (results_none Tryd.results44 _ _ _) rfl ?_
  all_goals first | exact ⟨rfl, _, _, (HH.out.setStop _), below_set _ _ _ _⟩ | exact ⟨rfl, _, _, HH.out.drew.setStop _, below_setD _ _ _ _⟩ | exact ⟨rfl, _, _, (HH.out.setStop _).drew, below_setE _ _ _ _⟩
theorem stop_addr (h : MachIs w bm s cs vo) (ok : OkSt s) (i : Nat) (hi : i < 100) (hat : s.at_ = i) (W : Int) (hw : Acc.wordAt s i = W) (r : Nat) (z : Int) (w0 : 0 ≤ W) (w1 : W < 20000) (hop : W / 100 % 100 < 18) (hr : W % 100 = r) (hA : W < 10000 ∧ r = z ∨ 10000 ≤ W ∧ (r : Int) + s.x = z) (hz : z < 0 ∨ 100 ≤ z) : Calls Tryd.prog 44 #[.pointer (some ⟨bm, 0, none⟩)] w (EffPost w bm { s with stop := 3 }) := by
  have HH := Lib.hid h
  have hlt := h.lt
  have kS := h.cStop
  have fS := h.frozen 107
  have k0 : w.cell? ⟨bm, 100, none⟩ = some (.int .i64 (i : Int)) := by rw [h.cAt, hat]
  have kW : w.cell? ⟨bm, i, none⟩ = some (.int .i64 W) := by have := h.cWord hi; rw [← hw]; simpa [Acc.wordAt] using this
  have i0 : (0 : Int) ≤ (i : Int) := by omega
  have i1 : (i : Int) < 100 := by omega
  have hne : ((i : Int) == 100) = false := by simp; omega
  have kX := h.cX
  have hx5 := Acc.five_iff.1 ok.ok.x
  have HA := Lib.hid hA
  have HOK := Lib.hid ok
  have HAT := Lib.hid hat
  clear h hat hw hA ok
  go_enter Tryd.func44, Tryd.ntmps44
  go_wp2
  go_region_held3 (fun w' => w'.cell? ⟨bm, 100, none⟩ = some (.int .i64 (i : Int)) ∧ w'.cell? ⟨bm, i, none⟩ = some (.int .i64 W)) (go_keep) (fail)
  go_upto_if 46 with (fail)
  go_cut [4] (fun s4 wx => s4 = .int .i64 z ∧ wx = w.drew)
  case first =>
    rcases HA.out with ⟨c1, c2⟩ | ⟨c1, c2⟩
    all_goals go_wp2
    all_goals go_meet
    all_goals first | exact ⟨rfl, rfl⟩ | exact ⟨by rw [c2], rfl⟩
  case rest =>
    obtain ⟨rfl, rfl⟩ := hcut
    rcases hz with hz | hz
    all_goals go_wp2
    all_goals refine bodyPost_end (results_none Tryd.results44 _ _ _) rfl ?_
    all_goals first | exact ⟨rfl, _, _, (HH.out.setStop _), below_set _ _ _ _⟩ | exact ⟨rfl, _, _, HH.out.drew.setStop _, below_setD _ _ _ _⟩ | exact ⟨rfl, _, _, (HH.out.setStop _).drew, below_setE _ _ _ _⟩
theorem stop_div (h : MachIs w bm s cs vo) (ok : OkSt s) (i : Nat) (hi : i < 100) (hat : s.at_ = i) (W : Int) (hw : Acc.wordAt s i = W) (a : Nat) (ha : a < 100) (r : Nat) (w0 : 0 ≤ W) (w1 : W < 20000) (hop : W / 100 % 100 = 6) (hr : W % 100 = r) (hA : W < 10000 ∧ r = (a : Int) ∨ 10000 ≤ W ∧ (r : Int) + s.x = (a : Int)) (hn0 : Acc.wordAt s a = 0) : Calls Tryd.prog 44 #[.pointer (some ⟨bm, 0, none⟩)] w (EffPost w bm { s with stop := 6 }) := by
  have HH := Lib.hid h
  have hlt := h.lt
  have kS := h.cStop
  have fS := h.frozen 107
  have k0 : w.cell? ⟨bm, 100, none⟩ = some (.int .i64 (i : Int)) := by rw [h.cAt, hat]
  have kW : w.cell? ⟨bm, i, none⟩ = some (.int .i64 W) := by have := h.cWord hi; rw [← hw]; simpa [Acc.wordAt] using this
  have i0 : (0 : Int) ≤ (i : Int) := by omega
  have i1 : (i : Int) < 100 := by omega
  have hne : ((i : Int) == 100) = false := by simp; omega
  have kX := h.cX
  have hx5 := Acc.five_iff.1 ok.ok.x
  have HA := Lib.hid hA
  have HOK := Lib.hid ok
  have HAT := Lib.hid hat
  clear h hat hw hA ok
  have kA : w.cell? ⟨bm, a, none⟩ = some (.int .i64 0) := by have := HH.out.cWord ha; rw [← hn0]; simpa [Acc.wordAt] using this
  clear hn0
  go_enter Tryd.func44, Tryd.ntmps44
  go_wp2
  go_region_held3 (fun w' => w'.cell? ⟨bm, 100, none⟩ = some (.int .i64 (i : Int)) ∧ w'.cell? ⟨bm, i, none⟩ = some (.int .i64 W)) (go_keep) (fail)
  go_upto_if 46 with (fail)
  go_cut [4] (fun s4 wx => s4 = .int .i64 (a : Int) ∧ wx = w.drew)
  case first =>
    rcases HA.out with ⟨c1, c2⟩ | ⟨c1, c2⟩
    all_goals go_wp2
    all_goals go_meet
    all_goals first | exact ⟨rfl, rfl⟩ | exact ⟨by rw [c2], rfl⟩
  case rest =>
    obtain ⟨rfl, rfl⟩ := hcut
    have a0 : (0 : Int) ≤ (a : Int) := by omega
    have a1 : (a : Int) < 100 := by omega
    go_wp2
    all_goals refine bodyPost_end (results_none Tryd.results44 _ _ _) rfl ?_
    all_goals first | exact ⟨rfl, _, _, (HH.out.setStop _), below_set _ _ _ _⟩ | exact ⟨rfl, _, _, HH.out.drew.setStop _, below_setD _ _ _ _⟩ | exact ⟨rfl, _, _, (HH.out.setStop _).drew, below_setE _ _ _ _⟩
theorem stop_full (h : MachIs w bm s cs vo) (ok : OkSt s) (ht : Tabs w) (i : Nat) (hi : i < 100) (hat : s.at_ = i) (W : Int) (hw : Acc.wordAt s i = W) (a : Nat) (ha : a < 100) (r : Nat) (w0 : 0 ≤ W) (w1 : W < 20000) (hop : W / 100 % 100 = 14) (hr : W % 100 = r) (hA : W < 10000 ∧ r = (a : Int) ∨ 10000 ≤ W ∧ (r : Int) + s.x = (a : Int)) (ho : s.output.length ≤ 1000) (hol : 1000 < s.output.length + (Acc.lineF s.a).length) : Calls Tryd.prog 44 #[.pointer (some ⟨bm, 0, none⟩)] w (EffPost w bm { s with stop := 7 }) := by
  have HH := Lib.hid h
  have hlt := h.lt
  have kS := h.cStop
  have fS := h.frozen 107
  have k0 : w.cell? ⟨bm, 100, none⟩ = some (.int .i64 (i : Int)) := by rw [h.cAt, hat]
  have kW : w.cell? ⟨bm, i, none⟩ = some (.int .i64 W) := by have := h.cWord hi; rw [← hw]; simpa [Acc.wordAt] using this
  have i0 : (0 : Int) ≤ (i : Int) := by omega
  have i1 : (i : Int) < 100 := by omega
  have hne : ((i : Int) == 100) = false := by simp; omega
  have kX := h.cX
  have hx5 := Acc.five_iff.1 ok.ok.x
  have HA := Lib.hid hA
  have HOK := Lib.hid ok
  have HAT := Lib.hid hat
  clear h hat hw hA ok
  have HL := Lib.hid (fun W (hW : MachIs W bm s cs vo) (hT : Tabs W) => line_c hW HOK.out.ok.a hT)
  have HT := Lib.hid ht
  clear ht
  have hsz := strOfNums_size (Acc.lineF s.a)
  have hl7 : 1000 < s.output.length + (strOfNums (Acc.lineF s.a)).size := by rw [hsz]; exact hol
  have hup : s.output.length + (strOfNums (Acc.lineF s.a)).size ≤ 5000 := by have := line_len HOK.out.ok.a; rw [hsz]; omega
  have kO : w.cell? ⟨bm, 106, none⟩ = some vo := by rw [HH.out.cell, HH.out.output]
  obtain ⟨A, c, hvo, -⟩ := own_sl HH.out.outputo
  subst hvo
  clear hsz hol ho
  generalize strOfNums (Acc.lineF s.a) = ls at *
  have hwr : IntKind.i64.wrap ((s.output.length : Int) + (ls.size : Int)) = (s.output.length : Int) + (ls.size : Int) := IntWalk.i64_in _ (by omega)
  have hdec : decide ((1000 : Int) < (s.output.length : Int) + (ls.size : Int)) = true := by simp; omega
  go_enter Tryd.func44, Tryd.ntmps44
  go_wp2
  go_region_held3 (fun w' => w'.cell? ⟨bm, 100, none⟩ = some (.int .i64 (i : Int)) ∧ w'.cell? ⟨bm, i, none⟩ = some (.int .i64 W)) (go_keep) (fail)
  go_upto_if 46 with (fail)
  go_cut [4] (fun s4 wx => s4 = .int .i64 (a : Int) ∧ MachIs wx bm s cs (.slice A s.output.length c) ∧ Tabs wx ∧ Ext w wx)
  case first =>
    rcases HA.out with ⟨c1, c2⟩ | ⟨c1, c2⟩
    all_goals go_wp2
    all_goals go_meet
    all_goals exact ⟨by first | rfl | rw [c2], HH.out.drew, HT.out.below (Below.drew (Below.refl 2 w)) (Nat.le_refl 2), (Ext.refl w).drew⟩
  case rest =>
    obtain ⟨rfl, hmc, htc, hxc⟩ := hcut
    have HMC := Lib.hid hmc
    have HTC := Lib.hid htc
    have HXC := Lib.hid hxc
    have kc : wc.cell? ⟨bm, 106, none⟩ = some (.slice A s.output.length c) := by rw [hmc.cell, hmc.output]
    have ks := hmc.cStop
    have fs := hmc.frozen 107
    have hltc := hmc.lt
    have a0 : (0 : Int) ≤ (a : Int) := by omega
    have a1 : (a : Int) < 100 := by omega
    clear hmc htc hxc
    go_wp2
    go_region_held3 (fun w' => w'.cell? ⟨bm, 106, none⟩ = some (.slice A s.output.length c)) ((first | exact kc | exact q6 | go_keep)) ((go_at_call 68; refine (HL.out _ (by first | exact HMC.out | exact HMC.out.drew) (by first | exact HTC.out | exact HTC.out.below (Below.drew (Below.refl 2 wc)) (Nat.le_refl 2))).mono ?_; rintro e w5 ⟨rfl, hx5⟩; have q6 : w5.cell? ⟨bm, 106, none⟩ = some (.slice A s.output.length c) := hx5.cell kc; have q7 : w5.cell? ⟨bm, 107, none⟩ = some (.int .i64 s.stop) := hx5.cell ks; have HX5 := Lib.hid (HXC.out.trans ((Ext.refl wc).drew.trans hx5)); have HM5 := Lib.hid (HMC.out.drew.ext hx5); have f5 := HM5.out.frozen 107; have hlt5 := HM5.out.lt; clear hx5))
    go_wp2
    refine bodyPost_end (results_none Tryd.results44 _ _ _) rfl ?_
    exact ⟨rfl, _, _, HM5.out.setStop _, Below.setCell (p := ⟨bm, 107, none⟩) (Below.mono HX5.out (Nat.le_of_lt hlt)) (Nat.le_refl _) _⟩
end
end Go.Proofs.YtbaahbpianingaaDoor
