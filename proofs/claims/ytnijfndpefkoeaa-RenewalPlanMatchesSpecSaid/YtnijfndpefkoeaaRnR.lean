import Derived.Test.YtnijfndpefkoeaaRnQ
namespace Go.Proofs.Ytnijfndpefkoeaa
open Go Go.Proofs Go.RowKit
open Ren (E lessE atE swapE UpAt DnAt DnIs Heap Child par)
set_option maxHeartbeats 6400000
set_option maxRecDepth 100000
theorem sizeO : (Try.prog.info? 70).map (·.size) = some 2 := by kernel_rfl
theorem qis_ge {W : World} {B : Nat} {q : List E} (h : QIs W B q) : B < W.heap.size := by
  obtain ⟨v, h1, _⟩ := h
  exact (Array.getElem?_eq_some_iff.1 h1).1
theorem QIs.ext {W W2 : World} {B : Nat} {q : List E} (h : QIs W B q) (x : Ext W W2) : QIs W2 B q := by
  obtain ⟨v, h1, h2, h3⟩ := h
  exact ⟨v, ext_heap x h1, town_ext h2 x, h3⟩
theorem prsV_take : ∀ (q : List E) (n : Nat), prsV (q.take n) = (prsV q).take (n * 2)
  | [], n => by simp [prsV]
  | p :: q, 0 => rfl
  | p :: q, n + 1 => by
    rw [List.take_succ_cons, prsV_cons, prsV_cons, prsV_take q n, show (n + 1) * 2 = n * 2 + 1 + 1 by omega]
    rfl
theorem pop_post {w : World} {B g n cap : Nat} {cur : Array Value} {q : List E} {v : Value} (hb : w.heap[B]? = some (.cells #[v] 72 (0, 0))) (hO : OwnBlk w (B - 1) 70 g (n + 1) cap cur (prsV q)) (hgB : g ≠ B) (hq : q.length = n + 1) :
    QIs (w.setCell ⟨B, 0, none⟩ (.slice (some ⟨g, 0, none⟩) n cap)) B (q.take n) := by
  refine ⟨_, heap_set_self hb 0 _, ?_, fun q => hgB (by injection q)⟩
  have hlen : (q.take n).length = n := by rw [List.length_take]; omega
  have ho : OwnBlk (w.setCell ⟨B, 0, none⟩ (.slice (some ⟨g, 0, none⟩) n cap)) (B - 1) 70 g n cap cur (prsV (q.take n)) := by
    refine ⟨hO.ge, ?_, by have := hO.nc; omega, hO.cm, ?_, hO.size⟩
    · rw [Below.heap_setCell _ _ _ _ hgB]; exact hO.blk
    · rw [prsV_take, ← hO.take, List.take_take]
      congr 1
      omega
  have := ho.own (by rw [prsV_len, hlen])
  rw [hlen]
  exact this
structure QBlk (w : World) (B : Nat) (q : List E) (v : Value) (W : World) : Prop where
  b : w.heap[B]? = some (.cells #[v] 72 (0, 0))
  o : w.ownsRow (B - 1) 70 2 v q.length (prsV q)
  n : v.ownBlock ≠ some B
  x : Ext w W
theorem qb_ne {w W : World} {B : Nat} {q : List E} {v : Value} (h : QBlk w B q v W) : ∀ k, v.ownBlock = some k → B - 1 ≤ k := fun _ hk => (own_lt h.o hk).1
theorem qb_blk {w W w1 : World} {B : Nat} {q : List E} {v : Value} (h : QBlk w B q v W) (hg : W.grownBy w1 v.ownBlock) : w1.heap[B]? = some (.cells #[v] 72 (0, 0)) := by
  have hb := ext_heap h.x h.b
  have hlt := (Array.getElem?_eq_some_iff.1 hb).1
  rw [hg.block B hlt (fun q => h.n q.symm)]
  exact hb
theorem push_cell {w W w1 : World} {B : Nat} {q : List E} {v : Value} (h : QBlk w B q v W) (hg : W.grownBy w1 v.ownBlock) : w1.cell? ⟨B, 0, none⟩ = some v := blk_cell (qb_blk h hg) 0
theorem push_frozen {w W w1 : World} {B : Nat} {q : List E} {v : Value} (h : QBlk w B q v W) (hg : W.grownBy w1 v.ownBlock) : w1.frozen? ⟨B, 0, none⟩ = false := blk_frozen (qb_blk h hg) 0
theorem push_post {w W w1 : World} {B : Nat} {q : List E} {v v' : Value} {x : E} (h : QBlk w B q v W) (ho : w1.ownsRow (B - 1) 70 2 v' (q.length + 1) (prsV q ++ prV x)) (hg : W.grownBy w1 v.ownBlock) (ha : v'.ownBlock = v.ownBlock ∨ v'.ownBlock = some W.heap.size) :
    QIs (w1.setCell ⟨B, 0, none⟩ v') B (q ++ [x]) ∧ Below (B - 1) w (w1.setCell ⟨B, 0, none⟩ v') := by
  have hlt := (Array.getElem?_eq_some_iff.1 h.b).1
  have hne : v'.ownBlock ≠ some B := by
    rcases ha with e | e
    · rw [e]; exact h.n
    · rw [e]; intro q; injection q with q; have := h.x.size; omega
  refine ⟨⟨v', heap_set_self (qb_blk h hg) 0 _, ?_, hne⟩, ?_⟩
  · rw [List.length_append, prsV_snoc]
    exact own_keep ho fun k hk => Below.heap_setCell _ _ _ _ (fun q => hne (by rw [hk]; exact congrArg some q))
  · exact Below.setCell (p := ⟨B, 0, none⟩) (Below.grown (Below.mono h.x (by omega)) hg (by have := h.x.size; omega) fun k hk => qb_ne h k hk) (by show B - 1 ≤ B; omega) v'
theorem Push_c (q : List E) (B : Nat) (x : E) (w : World) (h : QIs w B q) (hq : q.length ≤ 100) : Calls Try.prog 66 #[.pointer (some ⟨B, 0, none⟩), .iface 70 (.agg #[.int .i64 x.1, .int .i64 x.2])] w fun e w' => e = .returned (.tuple #[]) ∧ QIs w' B (q ++ [x]) ∧ Below (B - 1) w w' := by
  obtain ⟨v, hb, ho, hvn⟩ := h
  obtain ⟨x0, x1⟩ := x
  obtain ⟨ir, hi, hz0, hz1, hz2⟩ := info_parts infoO
  have HI := Lib.hid hi
  have HZ0 := Lib.hid hz0
  have HZ1 := Lib.hid hz1
  have HZ2 := Lib.hid hz2
  have c0 : w.cell? ⟨B, 0, none⟩ = some v := blk_cell hb 0
  have hlt := (Array.getElem?_eq_some_iff.1 hb).1
  have XA : Ext w (w.drew.alloc (.cells #[.int .i64 x0, .int .i64 x1] 70)) := (Ext.refl w).drew.alloc _
  have HQB : Hid (QBlk w B q v (w.drew.alloc (.cells #[.int .i64 x0, .int .i64 x1] 70))) := Lib.hid ⟨hb, ho, hvn, XA⟩
  have HOWN := Lib.hid (town_ext ho XA)
  have HSL : Hid (SlC (w.drew.alloc (.cells #[.int .i64 x0, .int .i64 x1] 70)) (some ⟨w.heap.size, 0, none⟩) (prV (x0, x1))) := Lib.hid (slc_at (W := w.drew) (g := w.heap.size) rfl (prV (x0, x1)))
  have HB1 : Hid (q.length + 1 ≤ maxLen) := Lib.hid (by unfold maxLen; omega)
  have HB2 : Hid ((q.length + 1) * 16 ≤ 140737488355328) := Lib.hid (by omega)
  have HB3 : Hid (B - 1 ≤ (w.drew.alloc (.cells #[.int .i64 x0, .int .i64 x1] 70)).heap.size) := Lib.hid (by have := XA.size; omega)
  have rta : ∀ W : World, (Instr.typeAssert (.iface 70 (.agg #[.int .i64 x0, .int .i64 x1])) 20 70 false).run Try.prog W = .ok (.agg #[.int .i64 x0, .int .i64 x1]) W := fun W => by kernel_rfl
  have rbs : ∀ W : World, (Instr.buildSlice 72 1 #[(0, .agg #[.int .i64 x0, .int .i64 x1])]).run Try.prog W = .ok (.slice (some ⟨W.heap.size, 0, none⟩) 1 1) (W.alloc (.cells #[.int .i64 x0, .int .i64 x1] 70)) := fun W => by kernel_rfl
  clear hi hz0 hz1 hz2 XA hb ho hvn
  go_enter Try.func66, Try.ntmps66
  refine wp_region_held_drew (S := (fun _ => True)) (by kernel_rfl) ?_ (fun hHeld => ?_)
  · trivial
  refine wpAnyH_take (i := 0) (oi := { dst := some 4, op := _, type := _, pos := _, after := _, guard := _ }) (v := ?v101) rfl (by kernel_rfl) (by kernel_rfl) (by kernel_rfl) (fun _ _ _ h => h) (Or.inl ⟨by rfl, ?hy101⟩) (by assumption) ?rest101
  case hy101 => (intro w hSw; (try dsimp only at hSw); go_simp; (try with_reducible rfl))
  try simp only [Act.put, List.setIfInBounds_toArray, List.set_cons_zero, List.set_cons_succ]
  refine wpAnyH_take (i := 1) (oi := { dst := some 5, op := _, type := _, pos := _, after := _, guard := _ }) (v := ?v102) rfl (by kernel_rfl) (by kernel_rfl) (by kernel_rfl) (fun _ _ _ h => h) (Or.inl ⟨by rfl, ?hy102⟩) (by assumption) ?rest102
  case hy102 => (intro w hSw; (try dsimp only at hSw); go_simp; (try with_reducible rfl))
  try simp only [Act.put, List.setIfInBounds_toArray, List.set_cons_zero, List.set_cons_succ]
  refine wpAnyH_take (i := 2) (oi := { dst := some 6, op := _, type := _, pos := _, after := _, guard := _ }) (v := ?v103) rfl (by kernel_rfl) (by kernel_rfl) (by kernel_rfl) (fun _ _ _ h => h) (Or.inl ⟨by rfl, ?hy103⟩) (by assumption) ?rest103
  case hy103 => (intro w hSw; (try dsimp only at hSw); go_simp; (try with_reducible rfl))
  try simp only [Act.put, List.setIfInBounds_toArray, List.set_cons_zero, List.set_cons_succ]
  refine wpAnyH_take (i := 4) (oi := { dst := some 8, op := _, type := _, pos := _, after := _, guard := _ }) (v := ?v104) rfl (by kernel_rfl) (by kernel_rfl) (by kernel_rfl) (fun _ _ _ h => h) (Or.inl ⟨by rfl, ?hy104⟩) (by assumption) ?rest104
  case hy104 => (intro w hSw; (try dsimp only at hSw); go_simp; (try with_reducible rfl))
  try simp only [Act.put, List.setIfInBounds_toArray, List.set_cons_zero, List.set_cons_succ]
  refine wpAnyH_ready (rs := [3, 5]) (by kernel_rfl) (by simp) ?_
  refine (AllReadyH.cons (o := { dst := some 7, op := _, type := _, pos := _, after := _, guard := _ }) rfl (fun K hK => ?_) (AllReadyH.cons (o := { dst := some 9, op := _, type := _, pos := _, after := _, guard := _ }) rfl (fun K hK => ?_) AllReadyH.nil))
  · go_simp
    refine hK.out _ _ ?_ (fun hHeld => ?_)
    · trivial
    clear hK K
    try simp only [Act.put, List.setIfInBounds_toArray, List.set_cons_zero, List.set_cons_succ]
    refine wpAnyH_ready (rs := [5]) (by kernel_rfl) (by simp) ?_
    refine (AllReadyH.cons (o := { dst := some 9, op := _, type := _, pos := _, after := _, guard := _ }) rfl (fun K hK => ?_) AllReadyH.nil)
    · go_simp
      refine hK.out _ _ ?_ (fun hHeld => ?_)
      · trivial
      clear hK K
      try simp only [Act.put, List.setIfInBounds_toArray, List.set_cons_zero, List.set_cons_succ]
      refine wpAnyH_ready (rs := [6]) (by kernel_rfl) (by simp) ?_
      refine (AllReadyH.cons (o := { dst := some 10, op := _, type := _, pos := _, after := _, guard := _ }) rfl (fun K hK => ?_) AllReadyH.nil)
      · go_simp
        refine hK.out _ _ ?_ (fun hHeld => ?_)
        · trivial
        clear hK K
        try simp only [Act.put, List.setIfInBounds_toArray, List.set_cons_zero, List.set_cons_succ]
        refine wpAnyH_ready (rs := [7]) (by kernel_rfl) (by simp) ?_
        refine (AllReadyH.cons (o := { dst := some 11, op := _, type := _, pos := _, after := _, guard := _ }) rfl (fun K hK => ?_) AllReadyH.nil)
        · refine step_append_sl rfl _ _ 72 rfl (B - 1) 70 ir _ 2 16 Try.underlying72 HI.out HZ0.out HZ1.out HZ2.out rfl (by decide) v q.length (prsV q) (by rfl) HOWN.out (some ⟨w.heap.size, 0, none⟩) 1 1 (prV (x0, x1)) (by rfl) HSL.out rfl (prV_one (x0, x1)) HB1.out HB2.out HB3.out ?_
          intro v' w1 ho3 hg3 hat3
          obtain ⟨A3, C3, rfl, _, _, _, _⟩ := own_sl5 ho3
          have HP := Lib.hid (push_post HQB.out ho3 hg3 hat3)
          have f1 : w1.frozen? ⟨B, 0, none⟩ = false := push_frozen HQB.out hg3
          have c1 : w1.cell? ⟨B, 0, none⟩ = some v := push_cell HQB.out hg3
          clear ho3 hg3 hat3
          refine hK.out _ _ ?_ (fun hHeld => ?_)
          · trivial
          clear hK K
          try simp only [Act.put, List.setIfInBounds_toArray, List.set_cons_zero, List.set_cons_succ]
          refine wpAnyH_take (i := 8) (oi := { dst := some 12, op := _, type := _, pos := _, after := _, guard := _ }) (v := ?v105) rfl (by kernel_rfl) (by kernel_rfl) (by kernel_rfl) (fun _ _ _ h => h) (Or.inl ⟨by rfl, ?hy105⟩) (by assumption) ?rest105
          case hy105 => (intro w hSw; (try dsimp only at hSw); go_simp; (try with_reducible rfl))
          try simp only [Act.put, List.setIfInBounds_toArray, List.set_cons_zero, List.set_cons_succ]
          refine wpAnyH_ready (rs := [9]) (by kernel_rfl) (by simp) ?_
          refine (AllReadyH.cons (o := { dst := none, op := _, type := _, pos := _, after := _, guard := _ }) rfl (fun K hK => ?_) AllReadyH.nil)
          · go_simp
            refine hK.out _ _ ?_ (fun hHeld => ?_)
            · trivial
            clear hK K
            try simp only [Act.put, List.setIfInBounds_toArray, List.set_cons_zero, List.set_cons_succ]
            refine wpAnyH_done (by kernel_rfl) ?_ _
            refine bodyPost_end (results_none Try.results66 _ _ _) rfl ⟨rfl, HP.out⟩
  · go_simp
    refine hK.out _ _ ?_ (fun hHeld => ?_)
    · trivial
    clear hK K
    try simp only [Act.put, List.setIfInBounds_toArray, List.set_cons_zero, List.set_cons_succ]
    refine wpAnyH_ready (rs := [3, 6]) (by kernel_rfl) (by simp) ?_
    refine (AllReadyH.cons (o := { dst := some 7, op := _, type := _, pos := _, after := _, guard := _ }) rfl (fun K hK => ?_) (AllReadyH.cons (o := { dst := some 10, op := _, type := _, pos := _, after := _, guard := _ }) rfl (fun K hK => ?_) AllReadyH.nil))
    · go_simp
      refine hK.out _ _ ?_ (fun hHeld => ?_)
      · trivial
      clear hK K
      try simp only [Act.put, List.setIfInBounds_toArray, List.set_cons_zero, List.set_cons_succ]
      refine wpAnyH_ready (rs := [6]) (by kernel_rfl) (by simp) ?_
      refine (AllReadyH.cons (o := { dst := some 10, op := _, type := _, pos := _, after := _, guard := _ }) rfl (fun K hK => ?_) AllReadyH.nil)
      · go_simp
        refine hK.out _ _ ?_ (fun hHeld => ?_)
        · trivial
        clear hK K
        try simp only [Act.put, List.setIfInBounds_toArray, List.set_cons_zero, List.set_cons_succ]
        refine wpAnyH_ready (rs := [7]) (by kernel_rfl) (by simp) ?_
        refine (AllReadyH.cons (o := { dst := some 11, op := _, type := _, pos := _, after := _, guard := _ }) rfl (fun K hK => ?_) AllReadyH.nil)
        · refine step_append_sl rfl _ _ 72 rfl (B - 1) 70 ir _ 2 16 Try.underlying72 HI.out HZ0.out HZ1.out HZ2.out rfl (by decide) v q.length (prsV q) (by rfl) HOWN.out (some ⟨w.heap.size, 0, none⟩) 1 1 (prV (x0, x1)) (by rfl) HSL.out rfl (prV_one (x0, x1)) HB1.out HB2.out HB3.out ?_
          intro v' w1 ho3 hg3 hat3
          obtain ⟨A3, C3, rfl, _, _, _, _⟩ := own_sl5 ho3
          have HP := Lib.hid (push_post HQB.out ho3 hg3 hat3)
          have f1 : w1.frozen? ⟨B, 0, none⟩ = false := push_frozen HQB.out hg3
          have c1 : w1.cell? ⟨B, 0, none⟩ = some v := push_cell HQB.out hg3
          clear ho3 hg3 hat3
          refine hK.out _ _ ?_ (fun hHeld => ?_)
          · trivial
          clear hK K
          try simp only [Act.put, List.setIfInBounds_toArray, List.set_cons_zero, List.set_cons_succ]
          refine wpAnyH_take (i := 8) (oi := { dst := some 12, op := _, type := _, pos := _, after := _, guard := _ }) (v := ?v106) rfl (by kernel_rfl) (by kernel_rfl) (by kernel_rfl) (fun _ _ _ h => h) (Or.inl ⟨by rfl, ?hy106⟩) (by assumption) ?rest106
          case hy106 => (intro w hSw; (try dsimp only at hSw); go_simp; (try with_reducible rfl))
          try simp only [Act.put, List.setIfInBounds_toArray, List.set_cons_zero, List.set_cons_succ]
          refine wpAnyH_ready (rs := [9]) (by kernel_rfl) (by simp) ?_
          refine (AllReadyH.cons (o := { dst := none, op := _, type := _, pos := _, after := _, guard := _ }) rfl (fun K hK => ?_) AllReadyH.nil)
          · go_simp
            refine hK.out _ _ ?_ (fun hHeld => ?_)
            · trivial
            clear hK K
            try simp only [Act.put, List.setIfInBounds_toArray, List.set_cons_zero, List.set_cons_succ]
            refine wpAnyH_done (by kernel_rfl) ?_ _
            refine bodyPost_end (results_none Try.results66 _ _ _) rfl ⟨rfl, HP.out⟩
    · go_simp
      refine hK.out _ _ ?_ (fun hHeld => ?_)
      · trivial
      clear hK K
      try simp only [Act.put, List.setIfInBounds_toArray, List.set_cons_zero, List.set_cons_succ]
      refine wpAnyH_ready (rs := [3]) (by kernel_rfl) (by simp) ?_
      refine (AllReadyH.cons (o := { dst := some 7, op := _, type := _, pos := _, after := _, guard := _ }) rfl (fun K hK => ?_) AllReadyH.nil)
      · go_simp
        refine hK.out _ _ ?_ (fun hHeld => ?_)
        · trivial
        clear hK K
        try simp only [Act.put, List.setIfInBounds_toArray, List.set_cons_zero, List.set_cons_succ]
        refine wpAnyH_ready (rs := [7]) (by kernel_rfl) (by simp) ?_
        refine (AllReadyH.cons (o := { dst := some 11, op := _, type := _, pos := _, after := _, guard := _ }) rfl (fun K hK => ?_) AllReadyH.nil)
        · refine step_append_sl rfl _ _ 72 rfl (B - 1) 70 ir _ 2 16 Try.underlying72 HI.out HZ0.out HZ1.out HZ2.out rfl (by decide) v q.length (prsV q) (by rfl) HOWN.out (some ⟨w.heap.size, 0, none⟩) 1 1 (prV (x0, x1)) (by rfl) HSL.out rfl (prV_one (x0, x1)) HB1.out HB2.out HB3.out ?_
          intro v' w1 ho3 hg3 hat3
          obtain ⟨A3, C3, rfl, _, _, _, _⟩ := own_sl5 ho3
          have HP := Lib.hid (push_post HQB.out ho3 hg3 hat3)
          have f1 : w1.frozen? ⟨B, 0, none⟩ = false := push_frozen HQB.out hg3
          have c1 : w1.cell? ⟨B, 0, none⟩ = some v := push_cell HQB.out hg3
          clear ho3 hg3 hat3
          refine hK.out _ _ ?_ (fun hHeld => ?_)
          · trivial
          clear hK K
          try simp only [Act.put, List.setIfInBounds_toArray, List.set_cons_zero, List.set_cons_succ]
          refine wpAnyH_take (i := 8) (oi := { dst := some 12, op := _, type := _, pos := _, after := _, guard := _ }) (v := ?v107) rfl (by kernel_rfl) (by kernel_rfl) (by kernel_rfl) (fun _ _ _ h => h) (Or.inl ⟨by rfl, ?hy107⟩) (by assumption) ?rest107
          case hy107 => (intro w hSw; (try dsimp only at hSw); go_simp; (try with_reducible rfl))
          try simp only [Act.put, List.setIfInBounds_toArray, List.set_cons_zero, List.set_cons_succ]
          refine wpAnyH_ready (rs := [9]) (by kernel_rfl) (by simp) ?_
          refine (AllReadyH.cons (o := { dst := none, op := _, type := _, pos := _, after := _, guard := _ }) rfl (fun K hK => ?_) AllReadyH.nil)
          · go_simp
            refine hK.out _ _ ?_ (fun hHeld => ?_)
            · trivial
            clear hK K
            try simp only [Act.put, List.setIfInBounds_toArray, List.set_cons_zero, List.set_cons_succ]
            refine wpAnyH_done (by kernel_rfl) ?_ _
            refine bodyPost_end (results_none Try.results66 _ _ _) rfl ⟨rfl, HP.out⟩
theorem Pop_c (q : List E) (n B : Nat) (w : World) (h : QIs w B q) (hq : q.length = n + 1) (hn : n ≤ 100) : Calls Try.prog 65 #[.pointer (some ⟨B, 0, none⟩)] w fun e w' => e = .returned (.iface 70 (.agg #[.int .i64 (atE q n).1, .int .i64 (atE q n).2])) ∧ QIs w' B (q.take n) ∧ Below (B - 1) w w' := by
  obtain ⟨v, hb, ho, hvn⟩ := h
  obtain ⟨g, cap, cur, rfl, hO⟩ := own_blk ho (by omega)
  rw [hq] at hO
  have hgB : g ≠ B := fun q => hvn (by rw [q]; rfl)
  have HQ := Lib.hid (pop_post hb hO hgB hq)
  clear hvn
  have c0 : w.cell? ⟨B, 0, none⟩ = some (.slice (some ⟨g, 0, none⟩) q.length cap) := blk_cell hb 0
  have f0 := blk_frozen hb 0
  obtain ⟨n0, n1⟩ := prsV_get q n _ (at_of (by omega))
  have d0 := hO.cell n0
  have d1 := hO.cell n1
  have hc := hO.nc
  have hlt := (Array.getElem?_eq_some_iff.1 hO.blk).1
  have hltB := (Array.getElem?_eq_some_iff.1 hb).1
  obtain ⟨y, hy⟩ : ∃ y, atE q n = y := ⟨_, rfl⟩
  rw [hy] at d0 d1 ⊢
  obtain ⟨y0, y1⟩ := y
  rw [hq] at c0
  have wn : IntKind.i64.wrap (((n + 1 : Nat) : Int) - 1) = (n : Int) := by rw [show (((n + 1 : Nat) : Int) - 1) = (n : Int) by omega]; exact IntWalk.i64_in _ (by omega)
  clear hy n0 n1
  go_enter Try.func65, Try.ntmps65
  go_wp2
  go_ret
  refine ⟨rfl, HQ.out.ext ((Ext.refl _).alloc _), Below.alloc (Below.setCell (p := ⟨B, 0, none⟩) (Below.refl (B - 1) w) (by show B - 1 ≤ B; omega) _) (Nat.le_trans (Nat.sub_le B 1) (Nat.le_of_lt (by simpa [World.setCell] using hltB))) _⟩
end Go.Proofs.Ytnijfndpefkoeaa
