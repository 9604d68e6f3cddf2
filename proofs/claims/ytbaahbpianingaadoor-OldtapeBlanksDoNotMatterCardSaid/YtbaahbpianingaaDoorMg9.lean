import Derived.Test.YtbaahbpianingaaDoorMg8
namespace Go.Proofs.YtbaahbpianingaaDoor
open Go Go.Proofs Go.RowKit
open Acc (Dk red five)
set_option maxHeartbeats 4000000
set_option maxRecDepth 100000
theorem run_append_str {P : Program} (w : World) (base : Nat) (t u ty e : TypeId) (i : TypeInfo) (ht : P.underlying t = some (.slice e)) (hu : P.underlying u = some .string) (hi : P.info? e = some i) (hz : i.zero = some (.int .u8 0)) (hsize : i.size = 1) (hby : i.bytes = 1)
    (v : Value) (n : Nat) (xs : List Value) (hown : w.ownsRow base e 1 v n xs) (s : ByteArray) (h63 : n + s.size ≤ maxLen) (hbytes : n + s.size ≤ 140737488355328) (hbase : base ≤ w.heap.size) :
    ∃ v' w', (Builtin.append_ #[t, u] ty #[v, .string s]).run P w = .ok v' w' ∧ RowTo w w' base e v v' (n + s.size) (xs ++ Lib.strCells s) := by
  obtain ⟨v', w', hr, h1, h2, h3⟩ := Lib.run_append_own_string (P := P) w base t u ty e i ht hu hi hz hsize hby v n xs hown s h63 hbytes hbase
  refine ⟨v', w', hr, h1, h2, ?_⟩
  have hsmall : n + s.size ≤ 9223372036854775807 := by simp only [maxLen] at h63; omega
  rcases hown.2 with ⟨rfl, rfl⟩ | ⟨g, cap, cur, rfl, hbg, hg, hnc, hcm, hcs, htake⟩
  · by_cases hm : s.size = 0
    · left; rw [(h3.2 ⟨rfl, hm⟩)]
    · right
      have hx := run_append_nil_string (P := P) w t u ty e i (.int .u8 0) ht hu hi hz s (by omega) (by omega) (by rw [hby]; omega)
      rw [hr] at hx
      injection hx with hx1 hx2
      exact ⟨w.heap.size, by rw [hx1]; rfl, Nat.le_refl _⟩
  · by_cases hroom : n + s.size ≤ cap
    · left
      have hcs' : cur.size = cap := by simpa using hcs
      have hx := Lib.run_append_room_string (P := P) w t u ty e i ht hu hi hsize g n cap cur hg s hroom (by omega)
      rw [hr] at hx
      injection hx with hx1 hx2
      rw [hx1]; rfl
    · right
      have hxl : xs.length = n := by simpa using hown.1
      have hx := Lib.run_append_grow_string (P := P) w t u ty e i (.int .u8 0) ht hu hi hz ⟨g, 0, none⟩ n cap xs (by rw [hsize]; simpa using hxl) (hown.cells (g := g) rfl) s (by omega) (by omega) (by rw [hby]; exact growslice_fits (by omega) (by omega))
      rw [hr] at hx
      injection hx with hx1 hx2
      exact ⟨w.heap.size, by rw [hx1]; rfl, Nat.le_refl _⟩
theorem strCells_nums {l : List Int} (h : Byt l) : Lib.strCells (strOfNums l) = l.map (Value.int .u8) := by
  unfold Lib.strCells
  rw [strOfNums_data, List.map_map]
  apply List.map_congr_left
  intro x hx
  have := h x hx
  simp only [Function.comp, UInt8.toNat_ofNat']
  congr 1
  omega
theorem signed_byt' (n : Int) : Byt (Acc.lineF n) := by
  intro c hc
  unfold Acc.lineF at hc
  rcases List.mem_append.1 hc with e | e
  · exact Acc.signed_byt n c e
  · rw [List.mem_singleton.1 e]; omega
section
variable {w : World} {bm g : Nat} {s : Dk} {cs : Array Value} {vo : Value}
theorem read_nil (h : MachIs w bm s cs vo) (hb8 : Byt s.input) (hn : s.input = []) : Calls Tryd.prog 110 #[.pointer (some ⟨bm, 0, none⟩)] w fun e w' => e = .returned (.int .i64 (-1)) ∧ w' = w := by
  refine (read_c h hb8).mono ?_
  rintro e w' (⟨_, he, hw⟩ | ⟨x, r, v', h1, _⟩)
  · exact ⟨he, hw⟩
  · rw [hn] at h1; cases h1
def ReadC (w : World) (bm : Nat) (vo : Value) (x : Int) (r : List Int) (e : Ending) (w' : World) : Prop :=
  ∃ v', e = .returned (.int .i64 x) ∧ w' = w.setCell ⟨bm, 105, none⟩ v' ∧ SlFAt w .u8 (some v') r (Bad bm vo)
theorem read_cons (h : MachIs w bm s cs vo) (hb8 : Byt s.input) {x : Int} {r : List Int} (hn : s.input = x :: r) : Calls Tryd.prog 110 #[.pointer (some ⟨bm, 0, none⟩)] w (ReadC w bm vo x r) := by
  refine (read_c h hb8).mono ?_
  rintro e w' (⟨h1, _⟩ | ⟨y, q, v', h1, h2, h3, h4⟩)
  · rw [hn] at h1; cases h1
  · rw [hn] at h1; cases h1; exact ⟨v', h2, h3, h4⟩
theorem eff10 (h : MachIs w bm s cs vo) (hc : Caught w g bm) (_ok : OkSt s) (a : Nat) (_ha : a < 100) : Calls Tryd.prog 106 #[.int .i64 (a : Int), .pointer (some ⟨g, 0, none⟩)] w (EffPost w bm (Acc.effF s 10 a)) := by
  have he : Acc.effF s 10 a = { Acc.jumpF s a s.ov with ov := false } := by simp [Acc.effF]
  rw [he]
  have HH := Lib.hid h
  have hlt := h.lt
  have k3 : w.cell? ⟨g, 0, none⟩ = some (.pointer (some ⟨bm, 0, none⟩)) := hc
  have hgb := hc.ne h
  have HJ := Lib.hid (fun W (hW : MachIs W bm s cs vo) b => jump_c hW a b)
  have kO := h.cOv
  have fO := h.frozen 104
  clear he h hc
  cases hb : s.ov with
  | true =>
    rw [hb] at kO
    clear hb
    go_enter Tryd.func106, Tryd.ntmps106
    go_wp2
    go_region_held3 (fun w' => w'.cell? ⟨g, 0, none⟩ = some (.pointer (some ⟨bm, 0, none⟩)) ∧ w'.cell? ⟨bm, 104, none⟩ = some (.bool true)) ((first | exact ⟨keep_c k3 (.inl hgb), keep_c kO (.inr (by omega))⟩ | exact ⟨k3, kO⟩ | go_keep)) ((go_at_call 103; refine (HJ.out _ (by first | exact HH.out | exact HH.out.drew) true).mono ?_; rintro e w5 ⟨rfl, rfl⟩; simp only [if_true]; have q3 := keep_c (u := .int .i64 (a : Int)) (b' := bm) (o' := 100) k3 (.inl hgb); have qO := keep_c (u := .int .i64 (a : Int)) (b' := bm) (o' := 100) kO (.inr (by omega))))
    all_goals go_wp2
    all_goals refine bodyPost_end (results_none Tryd.results106 _ _ _) rfl ?_
    all_goals first | exact ⟨rfl, _, _, ((HH.out.setAt _).setOv _).drew, below2 _ _ _ _ _ _⟩ | exact ⟨rfl, _, _, (HH.out.setOv _).drew, below_setE _ _ _ _⟩ | trace_state
  | false =>
    rw [hb] at kO
    clear hb
    go_enter Tryd.func106, Tryd.ntmps106
    go_wp2
    go_region_held3 (fun w' => w'.cell? ⟨g, 0, none⟩ = some (.pointer (some ⟨bm, 0, none⟩)) ∧ w'.cell? ⟨bm, 104, none⟩ = some (.bool false)) ((first | exact ⟨keep_c k3 (.inl hgb), keep_c kO (.inr (by omega))⟩ | exact ⟨k3, kO⟩ | go_keep)) ((go_at_call 103; refine (HJ.out _ (by first | exact HH.out | exact HH.out.drew) false).mono ?_; rintro e w5 ⟨rfl, rfl⟩; simp only [Bool.false_eq_true, if_false]))
    all_goals go_wp2
    all_goals refine bodyPost_end (results_none Tryd.results106 _ _ _) rfl ?_
    all_goals first | exact ⟨rfl, _, _, ((HH.out.setAt _).setOv _).drew, below2 _ _ _ _ _ _⟩ | exact ⟨rfl, _, _, (HH.out.setOv _).drew, below_setE _ _ _ _⟩ | trace_state
theorem eff12 (h : MachIs w bm s cs vo) (hc : Caught w g bm) (ok : OkSt s) (a : Nat) (_ha : a < 100) : Calls Tryd.prog 108 #[.int .i64 (a : Int), .pointer (some ⟨g, 0, none⟩)] w (EffPost w bm (Acc.effF s 12 a)) := by
  have he : Acc.effF s 12 a = Acc.jumpF { s with x := (Acc.sumF s s.x (-1)).1, ov := (Acc.sumF s s.x (-1)).2 } a (decide ((Acc.sumF s s.x (-1)).1 ≠ 0)) := by simp [Acc.effF]
  rw [he]
  have HH := Lib.hid h
  have hlt := h.lt
  have k3 : w.cell? ⟨g, 0, none⟩ = some (.pointer (some ⟨bm, 0, none⟩)) := hc
  have hgb := hc.ne h
  have HSU := Lib.hid (fun W (hW : MachIs W bm s cs vo) => sum_c hW s.x (-1) ok.ok.x (by decide))
  have kX := h.cX
  have fX := h.frozen 103
  clear he
  generalize Acc.sumF s s.x (-1) = su at *
  obtain ⟨su1, su2⟩ := su
  have HH2 := Lib.hid ((h.setOv su2).setX su1)
  have HJ := Lib.hid (fun W cs2 (hW : MachIs W bm { s with x := su1, ov := su2 } cs2 vo) b => jump_c hW a b)
  clear h hc
  obtain ⟨b, hb⟩ : ∃ b, decide (su1 ≠ 0) = b := ⟨_, rfl⟩
  have hb2 : (su1 != 0) = b := by rw [← hb]; by_cases q : su1 = 0 <;> simp [q]
  simp only
  rw [hb]
  clear hb
  go_enter Tryd.func108, Tryd.ntmps108
  go_wp2
  refine wp_region_held_drew (S := (fun w' => w'.cell? ⟨g, 0, none⟩ = some (.pointer (some ⟨bm, 0, none⟩)))) (by kernel_rfl) ?_ (fun hHeld => ?_)
  · (first | exact keep_c (keep_c k3 (.inl hgb)) (.inl hgb) | exact keep_c k3 (.inl hgb) | exact k3 | go_keep)
  refine wpAnyH_take (i := 0) (oi := { dst := some 3, op := _, type := _, pos := _, after := _, guard := _ }) (v := ?v1) rfl (by kernel_rfl) (by kernel_rfl) (by kernel_rfl) (fun _ _ _ h => h) (Or.inl ⟨by rfl, ?hy1⟩) (by assumption) ?rest1
  case hy1 => (intro w hSw; (try dsimp only at hSw); go_simp; (try with_reducible rfl))
  try simp only [Act.put, List.setIfInBounds_toArray, List.set_cons_zero, List.set_cons_succ]
  refine wpAnyH_take (i := 1) (oi := { dst := some 4, op := _, type := _, pos := _, after := _, guard := _ }) (v := ?v2) rfl (by kernel_rfl) (by kernel_rfl) (by kernel_rfl) (fun _ _ _ h => h) (Or.inl ⟨by rfl, ?hy2⟩) (by assumption) ?rest2
  case hy2 => (intro w hSw; (try dsimp only at hSw); go_simp; (try with_reducible rfl))
  try simp only [Act.put, List.setIfInBounds_toArray, List.set_cons_zero, List.set_cons_succ]
  refine wpAnyH_take (i := 2) (oi := { dst := some 5, op := _, type := _, pos := _, after := _, guard := _ }) (v := ?v3) rfl (by kernel_rfl) (by kernel_rfl) (by kernel_rfl) (fun _ _ _ h => h) (Or.inl ⟨by rfl, ?hy3⟩) (by assumption) ?rest3
  case hy3 => (intro w hSw; (try dsimp only at hSw); go_simp; (try with_reducible rfl))
  try simp only [Act.put, List.setIfInBounds_toArray, List.set_cons_zero, List.set_cons_succ]
  refine wpAnyH_take (i := 3) (oi := { dst := some 6, op := _, type := _, pos := _, after := _, guard := _ }) (v := ?v4) rfl (by kernel_rfl) (by kernel_rfl) (by kernel_rfl) (fun _ _ _ h => h) (Or.inl ⟨by rfl, ?hy4⟩) (by assumption) ?rest4
  case hy4 => (intro w hSw; (try dsimp only at hSw); go_simp; (try with_reducible rfl))
  try simp only [Act.put, List.setIfInBounds_toArray, List.set_cons_zero, List.set_cons_succ]
  refine wpAnyH_take (i := 4) (oi := { dst := some 7, op := _, type := _, pos := _, after := _, guard := _ }) (v := ?v5) rfl (by kernel_rfl) (by kernel_rfl) (by kernel_rfl) (fun _ _ _ h => h) (Or.inl ⟨by rfl, ?hy5⟩) (by assumption) ?rest5
  case hy5 => (intro w hSw; (try dsimp only at hSw); go_simp; (try with_reducible rfl))
  try simp only [Act.put, List.setIfInBounds_toArray, List.set_cons_zero, List.set_cons_succ]
  refine wpAnyH_take (i := 5) (oi := { dst := some 8, op := _, type := _, pos := _, after := _, guard := _ }) (v := ?v6) rfl (by kernel_rfl) (by kernel_rfl) (by kernel_rfl) (fun _ _ _ h => h) (Or.inl ⟨by rfl, ?hy6⟩) (by assumption) ?rest6
  case hy6 => (intro w hSw; (try dsimp only at hSw); go_simp; (try with_reducible rfl))
  try simp only [Act.put, List.setIfInBounds_toArray, List.set_cons_zero, List.set_cons_succ]
  refine wpAnyH_ready (rs := [6]) (by kernel_rfl) (by simp) ?_
  refine (AllReadyH.cons (o := { dst := some 9, op := _, type := _, pos := _, after := _, guard := _ }) rfl (fun K hK => ?_) AllReadyH.nil)
  · go_simp
    refine hK.out _ _ ?_ (fun hHeld => ?_)
    · (first | exact keep_c (keep_c k3 (.inl hgb)) (.inl hgb) | exact keep_c k3 (.inl hgb) | exact k3 | go_keep)
    clear hK K
    try simp only [Act.put, List.setIfInBounds_toArray, List.set_cons_zero, List.set_cons_succ]
    refine wpAnyH_ready (rs := [7]) (by kernel_rfl) (by simp) ?_
    refine (AllReadyH.cons (o := { dst := some 10, op := _, type := _, pos := _, after := _, guard := _ }) rfl (fun K hK => ?_) AllReadyH.nil)
    · go_simp
      (go_at_call 97; refine (HSU.out _ (by first | exact HH.out | exact HH.out.drew)).mono ?_; rintro e w5 ⟨rfl, rfl⟩; have q3 := keep_c (u := .bool su2) (b' := bm) (o' := 104) k3 (.inl hgb); have qX := keep_c (u := .bool su2) (b' := bm) (o' := 104) kX (.inr (by omega)))
      go_wp2_with fail
      refine hK.out _ _ ?_ (fun hHeld => ?_)
      · (first | exact keep_c (keep_c k3 (.inl hgb)) (.inl hgb) | exact keep_c k3 (.inl hgb) | exact k3 | go_keep)
      clear hK K
      try simp only [Act.put, List.setIfInBounds_toArray, List.set_cons_zero, List.set_cons_succ]
      refine wpAnyH_take (i := 8) (oi := { dst := some 11, op := _, type := _, pos := _, after := _, guard := _ }) (v := ?v7) rfl (by kernel_rfl) (by kernel_rfl) (by kernel_rfl) (fun _ _ _ h => h) (Or.inl ⟨by rfl, ?hy7⟩) (by assumption) ?rest7
      case hy7 => (intro w hSw; (try dsimp only at hSw); go_simp; (try with_reducible rfl))
      try simp only [Act.put, List.setIfInBounds_toArray, List.set_cons_zero, List.set_cons_succ]
      refine wpAnyH_take (i := 9) (oi := { dst := some 12, op := _, type := _, pos := _, after := _, guard := _ }) (v := ?v8) rfl (by kernel_rfl) (by kernel_rfl) (by kernel_rfl) (fun _ _ _ h => h) (Or.inl ⟨by rfl, ?hy8⟩) (by assumption) ?rest8
      case hy8 => (intro w hSw; (try dsimp only at hSw); go_simp; (try with_reducible rfl))
      try simp only [Act.put, List.setIfInBounds_toArray, List.set_cons_zero, List.set_cons_succ]
      refine wpAnyH_take (i := 10) (oi := { dst := some 13, op := _, type := _, pos := _, after := _, guard := _ }) (v := ?v9) rfl (by kernel_rfl) (by kernel_rfl) (by kernel_rfl) (fun _ _ _ h => h) (Or.inl ⟨by rfl, ?hy9⟩) (by assumption) ?rest9
      case hy9 => (intro w hSw; (try dsimp only at hSw); go_simp; (try with_reducible rfl))
      try simp only [Act.put, List.setIfInBounds_toArray, List.set_cons_zero, List.set_cons_succ]
      refine wpAnyH_ready (rs := [11]) (by kernel_rfl) (by simp) ?_
      refine (AllReadyH.cons (o := { dst := none, op := _, type := _, pos := _, after := _, guard := _ }) rfl (fun K hK => ?_) AllReadyH.nil)
      · go_simp
        refine hK.out _ _ ?_ (fun hHeld => ?_)
        · (first | exact keep_c (keep_c k3 (.inl hgb)) (.inl hgb) | exact keep_c k3 (.inl hgb) | exact k3 | go_keep)
        clear hK K
        try simp only [Act.put, List.setIfInBounds_toArray, List.set_cons_zero, List.set_cons_succ]
        refine wpAnyH_done (by kernel_rfl) ?_ _
        go_wp2
        have q3 : ((w.setCell ⟨bm, 104, none⟩ (.bool su2)).setCell ⟨bm, 103, none⟩ (.int .i64 su1)).drew.cell? ⟨g, 0, none⟩ = some (.pointer (some ⟨bm, 0, none⟩)) := keep_c (keep_c k3 (.inl hgb)) (.inl hgb)
        have qx : ((w.setCell ⟨bm, 104, none⟩ (.bool su2)).setCell ⟨bm, 103, none⟩ (.int .i64 su1)).drew.cell? ⟨bm, 103, none⟩ = some (.int .i64 su1) := by have := HH2.out.cX; exact this
        have HH3 := Lib.hid HH2.out.drew
        clear hHeld
        obtain ⟨w2, hw2⟩ : ∃ w2 : World, w2 = ((w.setCell ⟨bm, 104, none⟩ (.bool su2)).setCell ⟨bm, 103, none⟩ (.int .i64 su1)).drew := ⟨_, rfl⟩
        rw [← hw2] at HH3 q3 qx ⊢
        have HB : Hid (Below bm w w2) := Lib.hid (hw2 ▸ below2 _ _ _ _ _ _)
        have HW := Lib.hid hw2
        have hlt2 := HH3.out.lt
        clear hw2
        cases b with
        | true =>
          go_region_held3 (fun w' => w'.cell? ⟨g, 0, none⟩ = some (.pointer (some ⟨bm, 0, none⟩)) ∧ w'.cell? ⟨bm, 103, none⟩ = some (.int .i64 su1)) ((first | exact ⟨keep_c q3 (.inl hgb), keep_c qx (.inr (by omega))⟩ | exact ⟨q3, qx⟩ | go_keep)) ((go_at_call 103; refine (HJ.out _ _ (by first | exact HH3.out | exact HH3.out.drew) true).mono ?_; rintro e w5 ⟨rfl, rfl⟩; simp only [if_true]; have r3 := keep_c (u := .int .i64 (a : Int)) (b' := bm) (o' := 100) q3 (.inl hgb); have rx := keep_c (u := .int .i64 (a : Int)) (b' := bm) (o' := 100) qx (.inr (by omega))))
          all_goals go_wp2
          all_goals refine bodyPost_end (results_none Tryd.results108 _ _ _) rfl ?_
          all_goals first | exact ⟨rfl, _, _, HH3.out.drew.setAt _, Below.trans HB.out (below_setD _ _ _ _)⟩ | exact ⟨rfl, _, _, (HH3.out.setAt _).drew, Below.trans HB.out (below_setE _ _ _ _)⟩ | exact ⟨rfl, _, _, HH3.out.drew, Below.drew HB.out⟩
        | false =>
          go_region_held3 (fun w' => w'.cell? ⟨g, 0, none⟩ = some (.pointer (some ⟨bm, 0, none⟩)) ∧ w'.cell? ⟨bm, 103, none⟩ = some (.int .i64 su1)) ((first | exact ⟨keep_c q3 (.inl hgb), keep_c qx (.inr (by omega))⟩ | exact ⟨q3, qx⟩ | go_keep)) ((go_at_call 103; refine (HJ.out _ _ (by first | exact HH3.out | exact HH3.out.drew) false).mono ?_; rintro e w5 ⟨rfl, rfl⟩; simp only [Bool.false_eq_true, if_false]))
          all_goals go_wp2
          all_goals refine bodyPost_end (results_none Tryd.results108 _ _ _) rfl ?_
          all_goals first | exact ⟨rfl, _, _, HH3.out.drew.setAt _, Below.trans HB.out (below_setD _ _ _ _)⟩ | exact ⟨rfl, _, _, (HH3.out.setAt _).drew, Below.trans HB.out (below_setE _ _ _ _)⟩ | exact ⟨rfl, _, _, HH3.out.drew, Below.drew HB.out⟩
theorem eff13 (h : MachIs w bm s cs vo) (hc : Caught w g bm) (_ok : OkSt s) (a : Nat) (ha : a < 100) : Calls Tryd.prog 109 #[.int .i64 (a : Int), .pointer (some ⟨g, 0, none⟩)] w (EffPost w bm (Acc.effF s 13 a)) := by
  have he0 : s.input = [] → Acc.effF s 13 a = { s with words := s.words.set a (-1) } := by intro hin; simp [Acc.effF, hin]
  have he1 : ∀ b r, s.input = b :: r → Acc.effF s 13 a = { s with words := s.words.set a b, input := r } := by intro b r hin; simp [Acc.effF, hin]
  have HH := Lib.hid h
  have hlt := h.lt
  have k3 : w.cell? ⟨g, 0, none⟩ = some (.pointer (some ⟨bm, 0, none⟩)) := hc
  have hgb := hc.ne h
  have k4 : w.cell? ⟨bm, a, none⟩ = some (.int .i64 (Acc.wordAt s a)) := by have := h.cWord ha; simpa [Acc.wordAt] using this
  have fW := h.frozen a
  have i0 : (0 : Int) ≤ (a : Int) := by omega
  have i1 : (a : Int) < 100 := by omega
  have HRN := Lib.hid (fun W (hW : MachIs W bm s cs vo) => read_nil hW _ok.ok.byt)
  have HRC := Lib.hid (fun W (hW : MachIs W bm s cs vo) => @read_cons W bm s cs vo hW _ok.ok.byt)
  generalize Acc.wordAt s a = x at *
  clear h hc
  obtain ⟨inp, hin⟩ : ∃ l, s.input = l := ⟨_, rfl⟩
  cases inp with
  | nil =>
    have HIN := Lib.hid hin
    rw [he0 hin]
    clear hin he0 he1
    go_enter Tryd.func109, Tryd.ntmps109
    go_region_held3 (fun w' => w'.cell? ⟨g, 0, none⟩ = some (.pointer (some ⟨bm, 0, none⟩))) ((first | exact keep_c k3 (.inl hgb) | exact k3 | go_keep)) ((go_at_call 110; refine (HRN.out _ (by first | exact HH.out | exact HH.out.drew) HIN.out).mono ?_; rintro e w5 ⟨rfl, rfl⟩))
    all_goals go_wp2
    all_goals refine bodyPost_end (results_none Tryd.results109 _ _ _) rfl ?_
    all_goals first | exact ⟨rfl, _, _, (HH.out.setWord ha _).drew, below_setE _ _ _ _⟩ | exact ⟨rfl, _, _, HH.out.drew.setWord ha _, below_setD _ _ _ _⟩
  | cons b r =>
    have HIN := Lib.hid hin
    rw [he1 _ _ hin]
    clear hin he0 he1
    go_enter Tryd.func109, Tryd.ntmps109
    go_region_held3 (fun w' => w'.cell? ⟨g, 0, none⟩ = some (.pointer (some ⟨bm, 0, none⟩))) ((first | exact keep_c (keep_c k3 (.inl hgb)) (.inl hgb) | exact keep_c k3 (.inl hgb) | exact k3 | go_keep)) ((go_at_call 110; refine (HRC.out _ (by first | exact HH.out | exact HH.out.drew) HIN.out).mono ?_; rintro e w5 ⟨v', rfl, rfl, hrow⟩; have HROW := Lib.hid hrow; clear hrow; have q3 := keep_c (u := v') (b' := bm) (o' := 105) k3 (.inl hgb); have q4 := keep_c (u := v') (b' := bm) (o' := 105) k4 (.inr (by omega))))
    all_goals go_wp2
    all_goals refine bodyPost_end (results_none Tryd.results109 _ _ _) rfl ?_
    all_goals first | exact ⟨rfl, _, _, ((HH.out.newIn HROW.out).setWord ha _).drew, below2 _ _ _ _ _ _⟩ | exact ⟨rfl, _, _, (HH.out.drew.newIn HROW.out).setWord ha _, below3 _ _ _ _ _ _⟩
end
end Go.Proofs.YtbaahbpianingaaDoor
