import Derived.Test.YtbaahbpianingaaDoorMg5
namespace Go.Proofs.YtbaahbpianingaaDoor
open Go Go.Proofs Go.RowKit
open Acc (Dk red five)
set_option maxHeartbeats 4000000
set_option maxRecDepth 100000
section
variable {w : World} {bm g : Nat} {s : Dk} {cs : Array Value} {vo : Value}
theorem keep_c {W : World} {b o b' o' : Nat} {u v : Value} (h : W.cell? ⟨b, o, none⟩ = some v) (hn : b ≠ b' ∨ o ≠ o') : (W.setCell ⟨b', o', none⟩ u).cell? ⟨b, o, none⟩ = some v := keep_cell h hn
theorem below2 (w : World) (bm i j : Nat) (u v : Value) : Below bm w ((w.setCell ⟨bm, i, none⟩ u).setCell ⟨bm, j, none⟩ v).drew := Below.drew (Below.trans (below_set w bm i u) (below_set _ bm j v))
theorem below3 (w : World) (bm i j : Nat) (u v : Value) : Below bm w ((w.drew.setCell ⟨bm, i, none⟩ u).setCell ⟨bm, j, none⟩ v) := Below.trans (below_setD w bm i u) (below_set _ bm j v)
theorem five_neg {n : Int} (h : five n = true) : five (-n) = true := by rw [Acc.five_iff] at *; omega
theorem five_wrap {n : Int} (h : five n = true) : IntKind.i64.wrap n = n := by have := Acc.five_iff.1 h; exact IntWalk.i64_in _ (by omega)
theorem eff3 (h : MachIs w bm s cs vo) (hc : Caught w g bm) (ok : OkSt s) (a : Nat) (ha : a < 100) : Calls Tryd.prog 96 #[.int .i64 (a : Int), .pointer (some ⟨g, 0, none⟩)] w (EffPost w bm (Acc.effF s 3 a)) := by
  have he : Acc.effF s 3 a = { s with a := (Acc.sumF s s.a (Acc.wordAt s a)).1, ov := (Acc.sumF s s.a (Acc.wordAt s a)).2 } := by simp [Acc.effF]
  rw [he]
  have HH := Lib.hid h
  have hlt := h.lt
  have k3 : w.cell? ⟨g, 0, none⟩ = some (.pointer (some ⟨bm, 0, none⟩)) := hc
  have k4 : w.cell? ⟨bm, a, none⟩ = some (.int .i64 (Acc.wordAt s a)) := by have := h.cWord ha; simpa [Acc.wordAt] using this
  have kA := h.cA
  have fA := h.frozen 101
  have i0 : (0 : Int) ≤ (a : Int) := by omega
  have i1 : (a : Int) < 100 := by omega
  have hgb := hc.ne h
  have HSU := Lib.hid (fun W (hW : MachIs W bm s cs vo) => sum_c hW s.a (Acc.wordAt s a) ok.ok.a (Acc.word_five ok.ok a))
  clear he
  generalize Acc.sumF s s.a (Acc.wordAt s a) = su at *
  obtain ⟨su1, su2⟩ := su
  generalize Acc.wordAt s a = x at *
  clear h hc
  go_enter Tryd.func96, Tryd.ntmps96
  refine wp_region_held_drew (S := (fun w' => w'.cell? ⟨g, 0, none⟩ = some (.pointer (some ⟨bm, 0, none⟩)) ∧ w'.cell? ⟨bm, a, none⟩ = some (.int .i64 x))) (by kernel_rfl) ?_ (fun hHeld => ?_)
  · (first | exact ⟨keep_c (keep_c k3 (.inl hgb)) (.inl hgb), keep_c (keep_c k4 (.inr (by omega))) (.inr (by omega))⟩ | exact ⟨q3, q4⟩ | exact ⟨k3, k4⟩ | go_keep)
  refine wpAnyH_take (i := 0) (oi := { dst := some 3, op := _, type := _, pos := _, after := _, guard := _ }) (v := ?v1) rfl (by kernel_rfl) (by kernel_rfl) (by kernel_rfl) (fun _ _ _ h => h) (Or.inl ⟨by rfl, ?hy1⟩) (by assumption) ?rest1
  case hy1 => (intro w hSw; (try dsimp only at hSw); go_simp; (try with_reducible rfl))
  try simp only [Act.put, List.setIfInBounds_toArray, List.set_cons_zero, List.set_cons_succ]
  refine wpAnyH_take (i := 1) (oi := { dst := some 4, op := _, type := _, pos := _, after := _, guard := _ }) (v := ?v2) rfl (by kernel_rfl) (by kernel_rfl) (by kernel_rfl) (fun _ _ _ h => h) (Or.inl ⟨by rfl, ?hy2⟩) (by assumption) ?rest2
  case hy2 => (intro w hSw; (try dsimp only at hSw); go_simp; (try with_reducible rfl))
  try simp only [Act.put, List.setIfInBounds_toArray, List.set_cons_zero, List.set_cons_succ]
  refine wpAnyH_take (i := 2) (oi := { dst := some 5, op := _, type := _, pos := _, after := _, guard := _ }) (v := ?v3) rfl (by kernel_rfl) (by kernel_rfl) (by kernel_rfl) (fun _ _ _ h => h) (Or.inl ⟨by rfl, ?hy3⟩) (by assumption) ?rest3
  case hy3 => (intro w hSw; (try dsimp only at hSw); go_simp; (try with_reducible rfl))
  try simp only [Act.put, List.setIfInBounds_toArray, List.set_cons_zero, List.set_cons_succ]
  refine wpAnyH_take (i := 3) (oi := { dst := some 6, op := _, type := _, pos := _, after := _, guard := _ }) (v := ?v4) rfl (by kernel_rfl) (by kernel_rfl) (by kernel_rfl) (fun _ _ _ h => h) (Or.inl ⟨by rfl, ?hy4⟩) (by assumption) ?rest4
  case hy4 => (intro w hSw; (try dsimp only at hSw); go_simp; (try with_reducible rfl))
  try simp only [Act.put, List.setIfInBounds_toArray, List.set_cons_zero, List.set_cons_succ]
  refine wpAnyH_take (i := 4) (oi := { dst := some 7, op := _, type := _, pos := _, after := _, guard := _ }) (v := ?v5) rfl (by kernel_rfl) (by kernel_rfl) (by kernel_rfl) (fun _ _ _ h => h) (Or.inl ⟨by rfl, ?hy5⟩) (by assumption) ?rest5
  case hy5 => (intro w hSw; (try dsimp only at hSw); go_simp; (try with_reducible rfl))
  try simp only [Act.put, List.setIfInBounds_toArray, List.set_cons_zero, List.set_cons_succ]
  refine wpAnyH_take (i := 5) (oi := { dst := some 8, op := _, type := _, pos := _, after := _, guard := _ }) (v := ?v6) rfl (by kernel_rfl) (by kernel_rfl) (by kernel_rfl) (fun _ _ _ h => h) (Or.inl ⟨by rfl, ?hy6⟩) (by assumption) ?rest6
  case hy6 => (intro w hSw; (try dsimp only at hSw); go_simp; (try with_reducible rfl))
  try simp only [Act.put, List.setIfInBounds_toArray, List.set_cons_zero, List.set_cons_succ]
  refine wpAnyH_take (i := 7) (oi := { dst := some 10, op := _, type := _, pos := _, after := _, guard := _ }) (v := ?v7) rfl (by kernel_rfl) (by kernel_rfl) (by kernel_rfl) (fun _ _ _ h => h) (Or.inl ⟨by rfl, ?hy7⟩) (by assumption) ?rest7
  case hy7 => (intro w hSw; (try dsimp only at hSw); go_simp; (try with_reducible rfl))
  try simp only [Act.put, List.setIfInBounds_toArray, List.set_cons_zero, List.set_cons_succ]
  refine wpAnyH_take (i := 8) (oi := { dst := some 11, op := _, type := _, pos := _, after := _, guard := _ }) (v := ?v8) rfl (by kernel_rfl) (by kernel_rfl) (by kernel_rfl) (fun _ _ _ h => h) (Or.inl ⟨by rfl, ?hy8⟩) (by assumption) ?rest8
  case hy8 => (intro w hSw; (try dsimp only at hSw); go_simp; (try with_reducible rfl))
  try simp only [Act.put, List.setIfInBounds_toArray, List.set_cons_zero, List.set_cons_succ]
  refine wpAnyH_take (i := 9) (oi := { dst := some 12, op := _, type := _, pos := _, after := _, guard := _ }) (v := ?v9) rfl (by kernel_rfl) (by kernel_rfl) (by kernel_rfl) (fun _ _ _ h => h) (Or.inl ⟨by rfl, ?hy9⟩) (by assumption) ?rest9
  case hy9 => (intro w hSw; (try dsimp only at hSw); go_simp; (try with_reducible rfl))
  try simp only [Act.put, List.setIfInBounds_toArray, List.set_cons_zero, List.set_cons_succ]
  refine wpAnyH_take (i := 10) (oi := { dst := some 13, op := _, type := _, pos := _, after := _, guard := _ }) (v := ?v10) rfl (by kernel_rfl) (by kernel_rfl) (by kernel_rfl) (fun _ _ _ h => h) (Or.inl ⟨by rfl, ?hy10⟩) (by assumption) ?rest10
  case hy10 => (intro w hSw; (try dsimp only at hSw); go_simp; (try with_reducible rfl))
  try simp only [Act.put, List.setIfInBounds_toArray, List.set_cons_zero, List.set_cons_succ]
  refine wpAnyH_take (i := 11) (oi := { dst := some 14, op := _, type := _, pos := _, after := _, guard := _ }) (v := ?v11) rfl (by kernel_rfl) (by kernel_rfl) (by kernel_rfl) (fun _ _ _ h => h) (Or.inl ⟨by rfl, ?hy11⟩) (by assumption) ?rest11
  case hy11 => (intro w hSw; (try dsimp only at hSw); go_simp; (try with_reducible rfl))
  try simp only [Act.put, List.setIfInBounds_toArray, List.set_cons_zero, List.set_cons_succ]
  refine wpAnyH_take (i := 12) (oi := { dst := some 15, op := _, type := _, pos := _, after := _, guard := _ }) (v := ?v12) rfl (by kernel_rfl) (by kernel_rfl) (by kernel_rfl) (fun _ _ _ h => h) (Or.inl ⟨by rfl, ?hy12⟩) (by assumption) ?rest12
  case hy12 => (intro w hSw; (try dsimp only at hSw); go_simp; (try with_reducible rfl))
  try simp only [Act.put, List.setIfInBounds_toArray, List.set_cons_zero, List.set_cons_succ]
  refine wpAnyH_take (i := 13) (oi := { dst := some 16, op := _, type := _, pos := _, after := _, guard := _ }) (v := ?v13) rfl (by kernel_rfl) (by kernel_rfl) (by kernel_rfl) (fun _ _ _ h => h) (Or.inl ⟨by rfl, ?hy13⟩) (by assumption) ?rest13
  case hy13 => (intro w hSw; (try dsimp only at hSw); go_simp; (try with_reducible rfl))
  try simp only [Act.put, List.setIfInBounds_toArray, List.set_cons_zero, List.set_cons_succ]
  refine wpAnyH_ready (rs := [6]) (by kernel_rfl) (by simp) ?_
  refine (AllReadyH.cons (o := { dst := some 9, op := _, type := _, pos := _, after := _, guard := _ }) rfl (fun K hK => ?_) AllReadyH.nil)
  · go_simp
    refine hK.out _ _ ?_ (fun hHeld => ?_)
    · (first | exact ⟨keep_c (keep_c k3 (.inl hgb)) (.inl hgb), keep_c (keep_c k4 (.inr (by omega))) (.inr (by omega))⟩ | exact ⟨q3, q4⟩ | exact ⟨k3, k4⟩ | go_keep)
    clear hK K
    try simp only [Act.put, List.setIfInBounds_toArray, List.set_cons_zero, List.set_cons_succ]
    refine wpAnyH_ready (rs := [14]) (by kernel_rfl) (by simp) ?_
    refine (AllReadyH.cons (o := { dst := some 17, op := _, type := _, pos := _, after := _, guard := _ }) rfl (fun K hK => ?_) AllReadyH.nil)
    · go_simp
      (go_at_call 97; refine (HSU.out _ (by first | exact HH.out | exact HH.out.drew)).mono ?_; rintro e w5 ⟨rfl, rfl⟩; have q3 := keep_c (u := .bool su2) (b' := bm) (o' := 104) k3 (.inl hgb); have q4 := keep_c (u := .bool su2) (b' := bm) (o' := 104) k4 (.inr (by omega)))
      go_wp2_with fail
      refine hK.out _ _ ?_ (fun hHeld => ?_)
      · (first | exact ⟨keep_c (keep_c k3 (.inl hgb)) (.inl hgb), keep_c (keep_c k4 (.inr (by omega))) (.inr (by omega))⟩ | exact ⟨q3, q4⟩ | exact ⟨k3, k4⟩ | go_keep)
      clear hK K
      try simp only [Act.put, List.setIfInBounds_toArray, List.set_cons_zero, List.set_cons_succ]
      refine wpAnyH_take (i := 15) (oi := { dst := some 18, op := _, type := _, pos := _, after := _, guard := _ }) (v := ?v14) rfl (by kernel_rfl) (by kernel_rfl) (by kernel_rfl) (fun _ _ _ h => h) (Or.inl ⟨by rfl, ?hy14⟩) (by assumption) ?rest14
      case hy14 => (intro w hSw; (try dsimp only at hSw); go_simp; (try with_reducible rfl))
      try simp only [Act.put, List.setIfInBounds_toArray, List.set_cons_zero, List.set_cons_succ]
      refine wpAnyH_take (i := 16) (oi := { dst := some 19, op := _, type := _, pos := _, after := _, guard := _ }) (v := ?v15) rfl (by kernel_rfl) (by kernel_rfl) (by kernel_rfl) (fun _ _ _ h => h) (Or.inl ⟨by rfl, ?hy15⟩) (by assumption) ?rest15
      case hy15 => (intro w hSw; (try dsimp only at hSw); go_simp; (try with_reducible rfl))
      try simp only [Act.put, List.setIfInBounds_toArray, List.set_cons_zero, List.set_cons_succ]
      refine wpAnyH_take (i := 17) (oi := { dst := some 20, op := _, type := _, pos := _, after := _, guard := _ }) (v := ?v16) rfl (by kernel_rfl) (by kernel_rfl) (by kernel_rfl) (fun _ _ _ h => h) (Or.inl ⟨by rfl, ?hy16⟩) (by assumption) ?rest16
      case hy16 => (intro w hSw; (try dsimp only at hSw); go_simp; (try with_reducible rfl))
      try simp only [Act.put, List.setIfInBounds_toArray, List.set_cons_zero, List.set_cons_succ]
      refine wpAnyH_ready (rs := [18]) (by kernel_rfl) (by simp) ?_
      refine (AllReadyH.cons (o := { dst := none, op := _, type := _, pos := _, after := _, guard := _ }) rfl (fun K hK => ?_) AllReadyH.nil)
      · go_simp
        refine hK.out _ _ ?_ (fun hHeld => ?_)
        · (first | exact ⟨keep_c (keep_c k3 (.inl hgb)) (.inl hgb), keep_c (keep_c k4 (.inr (by omega))) (.inr (by omega))⟩ | exact ⟨q3, q4⟩ | exact ⟨k3, k4⟩ | go_keep)
        clear hK K
        try simp only [Act.put, List.setIfInBounds_toArray, List.set_cons_zero, List.set_cons_succ]
        refine wpAnyH_done (by kernel_rfl) ?_ _
        go_wp2
        refine bodyPost_end (results_none Tryd.results96 _ _ _) rfl ?_
        first | exact ⟨rfl, _, _, ((HH.out.setOv _).setA _).drew, below2 _ _ _ _ _ _⟩ | exact ⟨rfl, _, _, (HH.out.drew.setOv _).setA _, below3 _ _ _ _ _ _⟩
theorem eff4 (h : MachIs w bm s cs vo) (hc : Caught w g bm) (ok : OkSt s) (a : Nat) (ha : a < 100) : Calls Tryd.prog 98 #[.int .i64 (a : Int), .pointer (some ⟨g, 0, none⟩)] w (EffPost w bm (Acc.effF s 4 a)) := by
  have he : Acc.effF s 4 a = { s with a := (Acc.sumF s s.a (-Acc.wordAt s a)).1, ov := (Acc.sumF s s.a (-Acc.wordAt s a)).2 } := by simp [Acc.effF]
  rw [he]
  have HH := Lib.hid h
  have hlt := h.lt
  have k3 : w.cell? ⟨g, 0, none⟩ = some (.pointer (some ⟨bm, 0, none⟩)) := hc
  have k4 : w.cell? ⟨bm, a, none⟩ = some (.int .i64 (Acc.wordAt s a)) := by have := h.cWord ha; simpa [Acc.wordAt] using this
  have kA := h.cA
  have fA := h.frozen 101
  have i0 : (0 : Int) ≤ (a : Int) := by omega
  have i1 : (a : Int) < 100 := by omega
  have hgb := hc.ne h
  have HSU := Lib.hid (fun W (hW : MachIs W bm s cs vo) => sum_c hW s.a (-Acc.wordAt s a) ok.ok.a (five_neg (Acc.word_five ok.ok a)))
  have hwn := five_wrap (five_neg (Acc.word_five ok.ok a))
  clear he
  generalize Acc.sumF s s.a (-Acc.wordAt s a) = su at *
  obtain ⟨su1, su2⟩ := su
  generalize Acc.wordAt s a = x at *
  clear h hc
  go_enter Tryd.func98, Tryd.ntmps98
  refine wp_region_held_drew (S := (fun w' => w'.cell? ⟨g, 0, none⟩ = some (.pointer (some ⟨bm, 0, none⟩)) ∧ w'.cell? ⟨bm, a, none⟩ = some (.int .i64 x))) (by kernel_rfl) ?_ (fun hHeld => ?_)
  · (first | exact ⟨keep_c (keep_c k3 (.inl hgb)) (.inl hgb), keep_c (keep_c k4 (.inr (by omega))) (.inr (by omega))⟩ | exact ⟨q3, q4⟩ | exact ⟨k3, k4⟩ | go_keep)
  refine wpAnyH_take (i := 0) (oi := { dst := some 3, op := _, type := _, pos := _, after := _, guard := _ }) (v := ?v1) rfl (by kernel_rfl) (by kernel_rfl) (by kernel_rfl) (fun _ _ _ h => h) (Or.inl ⟨by rfl, ?hy1⟩) (by assumption) ?rest1
  case hy1 => (intro w hSw; (try dsimp only at hSw); go_simp; (try with_reducible rfl))
  try simp only [Act.put, List.setIfInBounds_toArray, List.set_cons_zero, List.set_cons_succ]
  refine wpAnyH_take (i := 1) (oi := { dst := some 4, op := _, type := _, pos := _, after := _, guard := _ }) (v := ?v2) rfl (by kernel_rfl) (by kernel_rfl) (by kernel_rfl) (fun _ _ _ h => h) (Or.inl ⟨by rfl, ?hy2⟩) (by assumption) ?rest2
  case hy2 => (intro w hSw; (try dsimp only at hSw); go_simp; (try with_reducible rfl))
  try simp only [Act.put, List.setIfInBounds_toArray, List.set_cons_zero, List.set_cons_succ]
  refine wpAnyH_take (i := 2) (oi := { dst := some 5, op := _, type := _, pos := _, after := _, guard := _ }) (v := ?v3) rfl (by kernel_rfl) (by kernel_rfl) (by kernel_rfl) (fun _ _ _ h => h) (Or.inl ⟨by rfl, ?hy3⟩) (by assumption) ?rest3
  case hy3 => (intro w hSw; (try dsimp only at hSw); go_simp; (try with_reducible rfl))
  try simp only [Act.put, List.setIfInBounds_toArray, List.set_cons_zero, List.set_cons_succ]
  refine wpAnyH_take (i := 3) (oi := { dst := some 6, op := _, type := _, pos := _, after := _, guard := _ }) (v := ?v4) rfl (by kernel_rfl) (by kernel_rfl) (by kernel_rfl) (fun _ _ _ h => h) (Or.inl ⟨by rfl, ?hy4⟩) (by assumption) ?rest4
  case hy4 => (intro w hSw; (try dsimp only at hSw); go_simp; (try with_reducible rfl))
  try simp only [Act.put, List.setIfInBounds_toArray, List.set_cons_zero, List.set_cons_succ]
  refine wpAnyH_take (i := 4) (oi := { dst := some 7, op := _, type := _, pos := _, after := _, guard := _ }) (v := ?v5) rfl (by kernel_rfl) (by kernel_rfl) (by kernel_rfl) (fun _ _ _ h => h) (Or.inl ⟨by rfl, ?hy5⟩) (by assumption) ?rest5
  case hy5 => (intro w hSw; (try dsimp only at hSw); go_simp; (try with_reducible rfl))
  try simp only [Act.put, List.setIfInBounds_toArray, List.set_cons_zero, List.set_cons_succ]
  refine wpAnyH_take (i := 5) (oi := { dst := some 8, op := _, type := _, pos := _, after := _, guard := _ }) (v := ?v6) rfl (by kernel_rfl) (by kernel_rfl) (by kernel_rfl) (fun _ _ _ h => h) (Or.inl ⟨by rfl, ?hy6⟩) (by assumption) ?rest6
  case hy6 => (intro w hSw; (try dsimp only at hSw); go_simp; (try with_reducible rfl))
  try simp only [Act.put, List.setIfInBounds_toArray, List.set_cons_zero, List.set_cons_succ]
  refine wpAnyH_take (i := 7) (oi := { dst := some 10, op := _, type := _, pos := _, after := _, guard := _ }) (v := ?v7) rfl (by kernel_rfl) (by kernel_rfl) (by kernel_rfl) (fun _ _ _ h => h) (Or.inl ⟨by rfl, ?hy7⟩) (by assumption) ?rest7
  case hy7 => (intro w hSw; (try dsimp only at hSw); go_simp; (try with_reducible rfl))
  try simp only [Act.put, List.setIfInBounds_toArray, List.set_cons_zero, List.set_cons_succ]
  refine wpAnyH_take (i := 8) (oi := { dst := some 11, op := _, type := _, pos := _, after := _, guard := _ }) (v := ?v8) rfl (by kernel_rfl) (by kernel_rfl) (by kernel_rfl) (fun _ _ _ h => h) (Or.inl ⟨by rfl, ?hy8⟩) (by assumption) ?rest8
  case hy8 => (intro w hSw; (try dsimp only at hSw); go_simp; (try with_reducible rfl))
  try simp only [Act.put, List.setIfInBounds_toArray, List.set_cons_zero, List.set_cons_succ]
  refine wpAnyH_take (i := 9) (oi := { dst := some 12, op := _, type := _, pos := _, after := _, guard := _ }) (v := ?v9) rfl (by kernel_rfl) (by kernel_rfl) (by kernel_rfl) (fun _ _ _ h => h) (Or.inl ⟨by rfl, ?hy9⟩) (by assumption) ?rest9
  case hy9 => (intro w hSw; (try dsimp only at hSw); go_simp; (try with_reducible rfl))
  try simp only [Act.put, List.setIfInBounds_toArray, List.set_cons_zero, List.set_cons_succ]
  refine wpAnyH_take (i := 10) (oi := { dst := some 13, op := _, type := _, pos := _, after := _, guard := _ }) (v := ?v10) rfl (by kernel_rfl) (by kernel_rfl) (by kernel_rfl) (fun _ _ _ h => h) (Or.inl ⟨by rfl, ?hy10⟩) (by assumption) ?rest10
  case hy10 => (intro w hSw; (try dsimp only at hSw); go_simp; (try with_reducible rfl))
  try simp only [Act.put, List.setIfInBounds_toArray, List.set_cons_zero, List.set_cons_succ]
  refine wpAnyH_take (i := 11) (oi := { dst := some 14, op := _, type := _, pos := _, after := _, guard := _ }) (v := ?v11) rfl (by kernel_rfl) (by kernel_rfl) (by kernel_rfl) (fun _ _ _ h => h) (Or.inl ⟨by rfl, ?hy11⟩) (by assumption) ?rest11
  case hy11 => (intro w hSw; (try dsimp only at hSw); go_simp; (try with_reducible rfl))
  try simp only [Act.put, List.setIfInBounds_toArray, List.set_cons_zero, List.set_cons_succ]
  refine wpAnyH_take (i := 12) (oi := { dst := some 15, op := _, type := _, pos := _, after := _, guard := _ }) (v := ?v12) rfl (by kernel_rfl) (by kernel_rfl) (by kernel_rfl) (fun _ _ _ h => h) (Or.inl ⟨by rfl, ?hy12⟩) (by assumption) ?rest12
  case hy12 => (intro w hSw; (try dsimp only at hSw); go_simp; (try with_reducible rfl))
  try simp only [Act.put, List.setIfInBounds_toArray, List.set_cons_zero, List.set_cons_succ]
  refine wpAnyH_take (i := 13) (oi := { dst := some 16, op := _, type := _, pos := _, after := _, guard := _ }) (v := ?v13) rfl (by kernel_rfl) (by kernel_rfl) (by kernel_rfl) (fun _ _ _ h => h) (Or.inl ⟨by rfl, ?hy13⟩) (by assumption) ?rest13
  case hy13 => (intro w hSw; (try dsimp only at hSw); go_simp; (try with_reducible rfl))
  try simp only [Act.put, List.setIfInBounds_toArray, List.set_cons_zero, List.set_cons_succ]
  refine wpAnyH_take (i := 14) (oi := { dst := some 17, op := _, type := _, pos := _, after := _, guard := _ }) (v := ?v14) rfl (by kernel_rfl) (by kernel_rfl) (by kernel_rfl) (fun _ _ _ h => h) (Or.inl ⟨by rfl, ?hy14⟩) (by assumption) ?rest14
  case hy14 => (intro w hSw; (try dsimp only at hSw); go_simp; (try with_reducible rfl))
  try simp only [Act.put, List.setIfInBounds_toArray, List.set_cons_zero, List.set_cons_succ]
  refine wpAnyH_ready (rs := [6]) (by kernel_rfl) (by simp) ?_
  refine (AllReadyH.cons (o := { dst := some 9, op := _, type := _, pos := _, after := _, guard := _ }) rfl (fun K hK => ?_) AllReadyH.nil)
  · go_simp
    refine hK.out _ _ ?_ (fun hHeld => ?_)
    · (first | exact ⟨keep_c (keep_c k3 (.inl hgb)) (.inl hgb), keep_c (keep_c k4 (.inr (by omega))) (.inr (by omega))⟩ | exact ⟨q3, q4⟩ | exact ⟨k3, k4⟩ | go_keep)
    clear hK K
    try simp only [Act.put, List.setIfInBounds_toArray, List.set_cons_zero, List.set_cons_succ]
    refine wpAnyH_ready (rs := [15]) (by kernel_rfl) (by simp) ?_
    refine (AllReadyH.cons (o := { dst := some 18, op := _, type := _, pos := _, after := _, guard := _ }) rfl (fun K hK => ?_) AllReadyH.nil)
    · go_simp
      (go_at_call 97; refine (HSU.out _ (by first | exact HH.out | exact HH.out.drew)).mono ?_; rintro e w5 ⟨rfl, rfl⟩; have q3 := keep_c (u := .bool su2) (b' := bm) (o' := 104) k3 (.inl hgb); have q4 := keep_c (u := .bool su2) (b' := bm) (o' := 104) k4 (.inr (by omega)))
      go_wp2_with fail
      refine hK.out _ _ ?_ (fun hHeld => ?_)
      · (first | exact ⟨keep_c (keep_c k3 (.inl hgb)) (.inl hgb), keep_c (keep_c k4 (.inr (by omega))) (.inr (by omega))⟩ | exact ⟨q3, q4⟩ | exact ⟨k3, k4⟩ | go_keep)
      clear hK K
      try simp only [Act.put, List.setIfInBounds_toArray, List.set_cons_zero, List.set_cons_succ]
      refine wpAnyH_take (i := 16) (oi := { dst := some 19, op := _, type := _, pos := _, after := _, guard := _ }) (v := ?v15) rfl (by kernel_rfl) (by kernel_rfl) (by kernel_rfl) (fun _ _ _ h => h) (Or.inl ⟨by rfl, ?hy15⟩) (by assumption) ?rest15
      case hy15 => (intro w hSw; (try dsimp only at hSw); go_simp; (try with_reducible rfl))
      try simp only [Act.put, List.setIfInBounds_toArray, List.set_cons_zero, List.set_cons_succ]
      refine wpAnyH_take (i := 17) (oi := { dst := some 20, op := _, type := _, pos := _, after := _, guard := _ }) (v := ?v16) rfl (by kernel_rfl) (by kernel_rfl) (by kernel_rfl) (fun _ _ _ h => h) (Or.inl ⟨by rfl, ?hy16⟩) (by assumption) ?rest16
      case hy16 => (intro w hSw; (try dsimp only at hSw); go_simp; (try with_reducible rfl))
      try simp only [Act.put, List.setIfInBounds_toArray, List.set_cons_zero, List.set_cons_succ]
      refine wpAnyH_take (i := 18) (oi := { dst := some 21, op := _, type := _, pos := _, after := _, guard := _ }) (v := ?v17) rfl (by kernel_rfl) (by kernel_rfl) (by kernel_rfl) (fun _ _ _ h => h) (Or.inl ⟨by rfl, ?hy17⟩) (by assumption) ?rest17
      case hy17 => (intro w hSw; (try dsimp only at hSw); go_simp; (try with_reducible rfl))
      try simp only [Act.put, List.setIfInBounds_toArray, List.set_cons_zero, List.set_cons_succ]
      refine wpAnyH_ready (rs := [19]) (by kernel_rfl) (by simp) ?_
      refine (AllReadyH.cons (o := { dst := none, op := _, type := _, pos := _, after := _, guard := _ }) rfl (fun K hK => ?_) AllReadyH.nil)
      · go_simp
        refine hK.out _ _ ?_ (fun hHeld => ?_)
        · (first | exact ⟨keep_c (keep_c k3 (.inl hgb)) (.inl hgb), keep_c (keep_c k4 (.inr (by omega))) (.inr (by omega))⟩ | exact ⟨q3, q4⟩ | exact ⟨k3, k4⟩ | go_keep)
        clear hK K
        try simp only [Act.put, List.setIfInBounds_toArray, List.set_cons_zero, List.set_cons_succ]
        refine wpAnyH_done (by kernel_rfl) ?_ _
        go_wp2
        refine bodyPost_end (results_none Tryd.results98 _ _ _) rfl ?_
        first | exact ⟨rfl, _, _, ((HH.out.setOv _).setA _).drew, below2 _ _ _ _ _ _⟩ | exact ⟨rfl, _, _, (HH.out.drew.setOv _).setA _, below3 _ _ _ _ _ _⟩
theorem eff8 (h : MachIs w bm s cs vo) (hc : Caught w g bm) (_ok : OkSt s) (a : Nat) (_ha : a < 100) : Calls Tryd.prog 104 #[.int .i64 (a : Int), .pointer (some ⟨g, 0, none⟩)] w (EffPost w bm (Acc.effF s 8 a)) := by
  have he : Acc.effF s 8 a = Acc.jumpF s a (decide (s.a < 0)) := by simp [Acc.effF]
  rw [he]
  have HH := Lib.hid h
  have hlt := h.lt
  have k3 : w.cell? ⟨g, 0, none⟩ = some (.pointer (some ⟨bm, 0, none⟩)) := hc
  have kA := h.cA
  have hgb := hc.ne h
  have HJ := Lib.hid (fun W (hW : MachIs W bm s cs vo) b => jump_c hW a b)
  by_cases hb : s.a < 0
  · have hd : decide (s.a < 0) = true := by simpa using hb
    have hd2 : decide (s.a < 0) = true := by simpa using hb
    have HE : Hid (Acc.jumpF s a (decide (s.a < 0)) = { s with at_ := (a : Int) }) := by show _ = _; rw [hd]; rfl
    rw [HE.out]
    clear h hc he
    go_enter Tryd.func104, Tryd.ntmps104
    go_region_held3 (fun w' => w'.cell? ⟨g, 0, none⟩ = some (.pointer (some ⟨bm, 0, none⟩)) ∧ w'.cell? ⟨bm, 101, none⟩ = some (.int .i64 s.a)) ((first | exact ⟨keep_c k3 (.inl hgb), keep_c kA (.inr (by omega))⟩ | exact ⟨k3, kA⟩ | go_keep)) ((go_at_call 103; refine (HJ.out _ (by first | exact HH.out | exact HH.out.drew) true).mono ?_; rintro e w5 ⟨rfl, rfl⟩; simp only [if_true]; have q3 := keep_c (u := .int .i64 (a : Int)) (b' := bm) (o' := 100) k3 (.inl hgb); have qA := keep_c (u := .int .i64 (a : Int)) (b' := bm) (o' := 100) kA (.inr (by omega))))
    all_goals go_wp2
    all_goals refine bodyPost_end (results_none Tryd.results104 _ _ _) rfl ?_
    all_goals first | exact ⟨rfl, _, _, (HH.out.setAt _).drew, below_setE _ _ _ _⟩ | exact ⟨rfl, _, _, HH.out.drew.setAt _, below_setD _ _ _ _⟩ | trace_state
  · have hd : decide (s.a < 0) = false := by simpa using hb
    have hd2 : decide (s.a < 0) = false := by simpa using hb
    have HE : Hid (Acc.jumpF s a (decide (s.a < 0)) = s) := by show _ = _; rw [hd]; rfl
    rw [HE.out]
    clear h hc he
    go_enter Tryd.func104, Tryd.ntmps104
    go_region_held3 (fun w' => w'.cell? ⟨g, 0, none⟩ = some (.pointer (some ⟨bm, 0, none⟩)) ∧ w'.cell? ⟨bm, 101, none⟩ = some (.int .i64 s.a)) ((first | exact ⟨keep_c k3 (.inl hgb), keep_c kA (.inr (by omega))⟩ | exact ⟨k3, kA⟩ | go_keep)) ((go_at_call 103; refine (HJ.out _ (by first | exact HH.out | exact HH.out.drew) false).mono ?_; rintro e w5 ⟨rfl, rfl⟩; simp only [Bool.false_eq_true, if_false]))
    all_goals go_wp2
    all_goals refine bodyPost_end (results_none Tryd.results104 _ _ _) rfl ?_
    all_goals first | exact ⟨rfl, _, _, HH.out.drew, Below.drew (Below.refl _ _)⟩ | exact ⟨rfl, _, _, HH.out, Below.refl _ _⟩ | trace_state
theorem eff9 (h : MachIs w bm s cs vo) (hc : Caught w g bm) (_ok : OkSt s) (a : Nat) (_ha : a < 100) : Calls Tryd.prog 105 #[.int .i64 (a : Int), .pointer (some ⟨g, 0, none⟩)] w (EffPost w bm (Acc.effF s 9 a)) := by
  have he : Acc.effF s 9 a = Acc.jumpF s a (decide (s.a = 0)) := by simp [Acc.effF]
  rw [he]
  have HH := Lib.hid h
  have hlt := h.lt
  have k3 : w.cell? ⟨g, 0, none⟩ = some (.pointer (some ⟨bm, 0, none⟩)) := hc
  have kA := h.cA
  have hgb := hc.ne h
  have HJ := Lib.hid (fun W (hW : MachIs W bm s cs vo) b => jump_c hW a b)
  by_cases hb : s.a = 0
  · have hd : decide (s.a = 0) = true := by simpa using hb
    have hd2 : (s.a == 0) = true := by simpa using hb
    have HE : Hid (Acc.jumpF s a (decide (s.a = 0)) = { s with at_ := (a : Int) }) := by show _ = _; rw [hd]; rfl
    rw [HE.out]
    clear h hc he
    go_enter Tryd.func105, Tryd.ntmps105
    go_region_held3 (fun w' => w'.cell? ⟨g, 0, none⟩ = some (.pointer (some ⟨bm, 0, none⟩)) ∧ w'.cell? ⟨bm, 101, none⟩ = some (.int .i64 s.a)) ((first | exact ⟨keep_c k3 (.inl hgb), keep_c kA (.inr (by omega))⟩ | exact ⟨k3, kA⟩ | go_keep)) ((go_at_call 103; refine (HJ.out _ (by first | exact HH.out | exact HH.out.drew) true).mono ?_; rintro e w5 ⟨rfl, rfl⟩; simp only [if_true]; have q3 := keep_c (u := .int .i64 (a : Int)) (b' := bm) (o' := 100) k3 (.inl hgb); have qA := keep_c (u := .int .i64 (a : Int)) (b' := bm) (o' := 100) kA (.inr (by omega))))
    all_goals go_wp2
    all_goals refine bodyPost_end (results_none Tryd.results105 _ _ _) rfl ?_
    all_goals first | exact ⟨rfl, _, _, (HH.out.setAt _).drew, below_setE _ _ _ _⟩ | exact ⟨rfl, _, _, HH.out.drew.setAt _, below_setD _ _ _ _⟩ | trace_state
  · have hd : decide (s.a = 0) = false := by simpa using hb
    have hd2 : (s.a == 0) = false := by simpa using hb
    have HE : Hid (Acc.jumpF s a (decide (s.a = 0)) = s) := by show _ = _; rw [hd]; rfl
    rw [HE.out]
    clear h hc he
    go_enter Tryd.func105, Tryd.ntmps105
    go_region_held3 (fun w' => w'.cell? ⟨g, 0, none⟩ = some (.pointer (some ⟨bm, 0, none⟩)) ∧ w'.cell? ⟨bm, 101, none⟩ = some (.int .i64 s.a)) ((first | exact ⟨keep_c k3 (.inl hgb), keep_c kA (.inr (by omega))⟩ | exact ⟨k3, kA⟩ | go_keep)) ((go_at_call 103; refine (HJ.out _ (by first | exact HH.out | exact HH.out.drew) false).mono ?_; rintro e w5 ⟨rfl, rfl⟩; simp only [Bool.false_eq_true, if_false]))
    all_goals go_wp2
    all_goals refine bodyPost_end (results_none Tryd.results105 _ _ _) rfl ?_
    all_goals first | exact ⟨rfl, _, _, HH.out.drew, Below.drew (Below.refl _ _)⟩ | exact ⟨rfl, _, _, HH.out, Below.refl _ _⟩ | trace_state
theorem eff7 (h : MachIs w bm s cs vo) (hc : Caught w g bm) (_ok : OkSt s) (a : Nat) (_ha : a < 100) : Calls Tryd.prog 102 #[.int .i64 (a : Int), .pointer (some ⟨g, 0, none⟩)] w (EffPost w bm (Acc.effF s 7 a)) := by
  have he : Acc.effF s 7 a = { s with at_ := (a : Int) } := by simp [Acc.effF, Acc.jumpF]
  rw [he]
  have HH := Lib.hid h
  have hlt := h.lt
  have k3 : w.cell? ⟨g, 0, none⟩ = some (.pointer (some ⟨bm, 0, none⟩)) := hc
  have HJ := Lib.hid (jump_c h a true)
  clear h hc he
  go_enter Tryd.func102, Tryd.ntmps102
  go_wp2_with (go_at_call 103; refine HJ.out.mono ?_; rintro e w5 ⟨rfl, rfl⟩; simp only [if_true])
  refine bodyPost_end (results_none Tryd.results102 _ _ _) rfl ?_
  exact ⟨rfl, _, _, HH.out.setAt _, below_set _ _ _ _⟩
theorem eff16 (h : MachIs w bm s cs vo) (hc : Caught w g bm) (ok : OkSt s) (a : Nat) (ha : a < 100) : Calls Tryd.prog 114 #[.int .i64 (a : Int), .pointer (some ⟨g, 0, none⟩)] w (EffPost w bm (Acc.effF s 16 a)) := by
  have he : Acc.effF s 16 a = { s with a := s.a.tdiv (Acc.shiftF (a : Int)) } := by simp [Acc.effF]
  rw [he]
  have HH := Lib.hid h
  have hlt := h.lt
  have k3 : w.cell? ⟨g, 0, none⟩ = some (.pointer (some ⟨bm, 0, none⟩)) := hc
  have k4 : w.cell? ⟨bm, a, none⟩ = some (.int .i64 (Acc.wordAt s a)) := by have := h.cWord ha; simpa [Acc.wordAt] using this
  have kA := h.cA
  have fA := h.frozen 101
  have i0 : (0 : Int) ≤ (a : Int) := by omega
  have i1 : (a : Int) < 100 := by omega
  have hgb := hc.ne h
  have HSH := Lib.hid (fun W => shift_c a W ha)
  have hwd := five_wrap (Acc.tdiv_five (b := Acc.shiftF (a : Int)) ok.ok.a)
  have hsn : Acc.shiftF (a : Int) ≠ 0 := by rw [Acc.shiftF_nat]; exact Int.ofNat_ne_zero.2 (Nat.pos_iff_ne_zero.1 (Nat.pow_pos (by omega)))
  have hsn' : (Acc.shiftF (a : Int) == 0) = false := by simpa using hsn
  clear he
  generalize Acc.shiftF (a : Int) = sh at *
  clear h hc
  go_enter Tryd.func114, Tryd.ntmps114
  refine wp_region_held_drew (S := (fun w' => w'.cell? ⟨g, 0, none⟩ = some (.pointer (some ⟨bm, 0, none⟩)))) (by kernel_rfl) ?_ (fun hHeld => ?_)
  · (first | exact keep_c k3 (.inl hgb) | exact k3 | go_keep)
  refine wpAnyH_take (i := 0) (oi := { dst := some 3, op := _, type := _, pos := _, after := _, guard := _ }) (v := ?v1) rfl (by kernel_rfl) (by kernel_rfl) (by kernel_rfl) (fun _ _ _ h => h) (Or.inl ⟨by rfl, ?hy1⟩) (by assumption) ?rest1
  case hy1 => (intro w hSw; (try dsimp only at hSw); go_simp; (try with_reducible rfl))
  try simp only [Act.put, List.setIfInBounds_toArray, List.set_cons_zero, List.set_cons_succ]
  refine wpAnyH_take (i := 1) (oi := { dst := some 4, op := _, type := _, pos := _, after := _, guard := _ }) (v := ?v2) rfl (by kernel_rfl) (by kernel_rfl) (by kernel_rfl) (fun _ _ _ h => h) (Or.inl ⟨by rfl, ?hy2⟩) (by assumption) ?rest2
  case hy2 => (intro w hSw; (try dsimp only at hSw); go_simp; (try with_reducible rfl))
  try simp only [Act.put, List.setIfInBounds_toArray, List.set_cons_zero, List.set_cons_succ]
  refine wpAnyH_take (i := 2) (oi := { dst := some 5, op := _, type := _, pos := _, after := _, guard := _ }) (v := ?v3) rfl (by kernel_rfl) (by kernel_rfl) (by kernel_rfl) (fun _ _ _ h => h) (Or.inl ⟨by rfl, ?hy3⟩) (by assumption) ?rest3
  case hy3 => (intro w hSw; (try dsimp only at hSw); go_simp; (try with_reducible rfl))
  try simp only [Act.put, List.setIfInBounds_toArray, List.set_cons_zero, List.set_cons_succ]
  refine wpAnyH_take (i := 3) (oi := { dst := some 6, op := _, type := _, pos := _, after := _, guard := _ }) (v := ?v4) rfl (by kernel_rfl) (by kernel_rfl) (by kernel_rfl) (fun _ _ _ h => h) (Or.inl ⟨by rfl, ?hy4⟩) (by assumption) ?rest4
  case hy4 => (intro w hSw; (try dsimp only at hSw); go_simp; (try with_reducible rfl))
  try simp only [Act.put, List.setIfInBounds_toArray, List.set_cons_zero, List.set_cons_succ]
  refine wpAnyH_take (i := 5) (oi := { dst := some 8, op := _, type := _, pos := _, after := _, guard := _ }) (v := ?v5) rfl (by kernel_rfl) (by kernel_rfl) (by kernel_rfl) (fun _ _ _ h => h) (Or.inl ⟨by rfl, ?hy5⟩) (by assumption) ?rest5
  case hy5 => (intro w hSw; (try dsimp only at hSw); go_simp; (try with_reducible rfl))
  try simp only [Act.put, List.setIfInBounds_toArray, List.set_cons_zero, List.set_cons_succ]
  refine wpAnyH_ready (rs := [4, 6]) (by kernel_rfl) (by simp) ?_
  refine (AllReadyH.cons (o := { dst := some 7, op := _, type := _, pos := _, after := _, guard := _ }) rfl (fun K hK => ?_) (AllReadyH.cons (o := { dst := some 9, op := _, type := _, pos := _, after := _, guard := _ }) rfl (fun K hK => ?_) AllReadyH.nil))
  · go_simp
    refine hK.out _ _ ?_ (fun hHeld => ?_)
    · (first | exact keep_c k3 (.inl hgb) | exact k3 | go_keep)
    clear hK K
    try simp only [Act.put, List.setIfInBounds_toArray, List.set_cons_zero, List.set_cons_succ]
    refine wpAnyH_ready (rs := [6]) (by kernel_rfl) (by simp) ?_
    refine (AllReadyH.cons (o := { dst := some 9, op := _, type := _, pos := _, after := _, guard := _ }) rfl (fun K hK => ?_) AllReadyH.nil)
    · go_simp
      (go_at_call 113; refine (HSH.out _).mono ?_; rintro e w5 ⟨rfl, rfl⟩)
      go_wp2_with fail
      refine hK.out _ _ ?_ (fun hHeld => ?_)
      · (first | exact keep_c k3 (.inl hgb) | exact k3 | go_keep)
      clear hK K
      try simp only [Act.put, List.setIfInBounds_toArray, List.set_cons_zero, List.set_cons_succ]
      refine wpAnyH_take (i := 7) (oi := { dst := some 10, op := _, type := _, pos := _, after := _, guard := _ }) (v := ?v6) rfl (by kernel_rfl) (by kernel_rfl) (by kernel_rfl) (fun _ _ _ h => h) (Or.inl ⟨by rfl, ?hy6⟩) (by assumption) ?rest6
      case hy6 => (intro w hSw; (try dsimp only at hSw); go_simp; (try with_reducible rfl))
      try simp only [Act.put, List.setIfInBounds_toArray, List.set_cons_zero, List.set_cons_succ]
      refine wpAnyH_take (i := 8) (oi := { dst := some 11, op := _, type := _, pos := _, after := _, guard := _ }) (v := ?v7) rfl (by kernel_rfl) (by kernel_rfl) (by kernel_rfl) (fun _ _ _ h => h) (Or.inl ⟨by rfl, ?hy7⟩) (by assumption) ?rest7
      case hy7 => (intro w hSw; (try dsimp only at hSw); go_simp; (try with_reducible rfl))
      try simp only [Act.put, List.setIfInBounds_toArray, List.set_cons_zero, List.set_cons_succ]
      refine wpAnyH_take (i := 9) (oi := { dst := some 12, op := _, type := _, pos := _, after := _, guard := _ }) (v := ?v8) rfl (by kernel_rfl) (by kernel_rfl) (by kernel_rfl) (fun _ _ _ h => h) (Or.inl ⟨by rfl, ?hy8⟩) (by assumption) ?rest8
      case hy8 => (intro w hSw; (try dsimp only at hSw); go_simp; (try with_reducible rfl))
      try simp only [Act.put, List.setIfInBounds_toArray, List.set_cons_zero, List.set_cons_succ]
      refine wpAnyH_take (i := 10) (oi := { dst := some 13, op := _, type := _, pos := _, after := _, guard := _ }) (v := ?v9) rfl (by kernel_rfl) (by kernel_rfl) (by kernel_rfl) (fun _ _ _ h => h) (Or.inl ⟨by rfl, ?hy9⟩) (by assumption) ?rest9
      case hy9 => (intro w hSw; (try dsimp only at hSw); go_simp; (try with_reducible rfl))
      try simp only [Act.put, List.setIfInBounds_toArray, List.set_cons_zero, List.set_cons_succ]
      refine wpAnyH_ready (rs := [11]) (by kernel_rfl) (by simp) ?_
      refine (AllReadyH.cons (o := { dst := none, op := _, type := _, pos := _, after := _, guard := _ }) rfl (fun K hK => ?_) AllReadyH.nil)
      · go_simp
        refine hK.out _ _ ?_ (fun hHeld => ?_)
        · (first | exact keep_c k3 (.inl hgb) | exact k3 | go_keep)
        clear hK K
        try simp only [Act.put, List.setIfInBounds_toArray, List.set_cons_zero, List.set_cons_succ]
        refine wpAnyH_done (by kernel_rfl) ?_ _
        go_wp2
        refine bodyPost_end (results_none Tryd.results114 _ _ _) rfl ?_
        first | exact ⟨rfl, _, _, (HH.out.setA _).drew, below_setE _ _ _ _⟩ | exact ⟨rfl, _, _, HH.out.drew.setA _, below_setD _ _ _ _⟩
  · go_simp
    (go_at_call 113; refine (HSH.out _).mono ?_; rintro e w5 ⟨rfl, rfl⟩)
    go_wp2_with fail
    refine hK.out _ _ ?_ (fun hHeld => ?_)
    · (first | exact keep_c k3 (.inl hgb) | exact k3 | go_keep)
    clear hK K
    try simp only [Act.put, List.setIfInBounds_toArray, List.set_cons_zero, List.set_cons_succ]
    refine wpAnyH_ready (rs := [4]) (by kernel_rfl) (by simp) ?_
    refine (AllReadyH.cons (o := { dst := some 7, op := _, type := _, pos := _, after := _, guard := _ }) rfl (fun K hK => ?_) AllReadyH.nil)
    · go_simp
      refine hK.out _ _ ?_ (fun hHeld => ?_)
      · (first | exact keep_c k3 (.inl hgb) | exact k3 | go_keep)
      clear hK K
      try simp only [Act.put, List.setIfInBounds_toArray, List.set_cons_zero, List.set_cons_succ]
      refine wpAnyH_take (i := 7) (oi := { dst := some 10, op := _, type := _, pos := _, after := _, guard := _ }) (v := ?v10) rfl (by kernel_rfl) (by kernel_rfl) (by kernel_rfl) (fun _ _ _ h => h) (Or.inl ⟨by rfl, ?hy10⟩) (by assumption) ?rest10
      case hy10 => (intro w hSw; (try dsimp only at hSw); go_simp; (try with_reducible rfl))
      try simp only [Act.put, List.setIfInBounds_toArray, List.set_cons_zero, List.set_cons_succ]
      refine wpAnyH_take (i := 8) (oi := { dst := some 11, op := _, type := _, pos := _, after := _, guard := _ }) (v := ?v11) rfl (by kernel_rfl) (by kernel_rfl) (by kernel_rfl) (fun _ _ _ h => h) (Or.inl ⟨by rfl, ?hy11⟩) (by assumption) ?rest11
      case hy11 => (intro w hSw; (try dsimp only at hSw); go_simp; (try with_reducible rfl))
      try simp only [Act.put, List.setIfInBounds_toArray, List.set_cons_zero, List.set_cons_succ]
      refine wpAnyH_take (i := 9) (oi := { dst := some 12, op := _, type := _, pos := _, after := _, guard := _ }) (v := ?v12) rfl (by kernel_rfl) (by kernel_rfl) (by kernel_rfl) (fun _ _ _ h => h) (Or.inl ⟨by rfl, ?hy12⟩) (by assumption) ?rest12
      case hy12 => (intro w hSw; (try dsimp only at hSw); go_simp; (try with_reducible rfl))
      try simp only [Act.put, List.setIfInBounds_toArray, List.set_cons_zero, List.set_cons_succ]
      refine wpAnyH_take (i := 10) (oi := { dst := some 13, op := _, type := _, pos := _, after := _, guard := _ }) (v := ?v13) rfl (by kernel_rfl) (by kernel_rfl) (by kernel_rfl) (fun _ _ _ h => h) (Or.inl ⟨by rfl, ?hy13⟩) (by assumption) ?rest13
      case hy13 => (intro w hSw; (try dsimp only at hSw); go_simp; (try with_reducible rfl))
      try simp only [Act.put, List.setIfInBounds_toArray, List.set_cons_zero, List.set_cons_succ]
      refine wpAnyH_ready (rs := [11]) (by kernel_rfl) (by simp) ?_
      refine (AllReadyH.cons (o := { dst := none, op := _, type := _, pos := _, after := _, guard := _ }) rfl (fun K hK => ?_) AllReadyH.nil)
      · go_simp
        refine hK.out _ _ ?_ (fun hHeld => ?_)
        · (first | exact keep_c k3 (.inl hgb) | exact k3 | go_keep)
        clear hK K
        try simp only [Act.put, List.setIfInBounds_toArray, List.set_cons_zero, List.set_cons_succ]
        refine wpAnyH_done (by kernel_rfl) ?_ _
        go_wp2
        refine bodyPost_end (results_none Tryd.results114 _ _ _) rfl ?_
        first | exact ⟨rfl, _, _, (HH.out.setA _).drew, below_setE _ _ _ _⟩ | exact ⟨rfl, _, _, HH.out.drew.setA _, below_setD _ _ _ _⟩
end
end Go.Proofs.YtbaahbpianingaaDoor
