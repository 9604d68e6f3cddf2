import Derived.Test.YtbhcaniopdgjkaaMg15
namespace Go.Proofs.Ytbhcaniopdgjkaa
open Go Go.Proofs Go.RowKit
open Plain (SiteD)
set_option maxHeartbeats 3200000
set_option maxRecDepth 100000
/-- The zones below k. -/
def zonesTo (L : List SiteD) (k : Nat) : List Int := ((List.range k).map Int.ofNat).filter fun z => L.any fun s => s.zones.contains z
theorem zonesTo_next (L : List SiteD) (k : Nat) : zonesTo L (k + 1) = zonesTo L k ++ (if (L.any fun s => s.zones.contains (k : Int)) = true then [(k : Int)] else []) := by
  unfold zonesTo
  rw [List.range_succ, List.map_append, List.filter_append]
  congr 1
  show List.filter _ [(k : Int)] = _
  rw [List.filter_cons]
  rfl
theorem zonesTo_len (L : List SiteD) (k : Nat) : (zonesTo L k).length ≤ k := by
  unfold zonesTo
  refine Nat.le_trans (List.length_filter_le _ _) ?_
  simp
theorem ZonesOf_c (A : Option Addr) (L : List SiteD) (c1 : Nat) (w : World) (hL : L.length ≤ 100000) (h1 : Sites w A L) :
    Calls Try.prog 25 #[.slice A L.length c1] w (LRet w (Plain.zonesF L)) := by
  obtain ⟨q, hq⟩ : ∃ q, q = L.length := ⟨_, rfl⟩
  rw [← hq] at hL ⊢
  have HQ := Lib.hid hq
  have H1 := Lib.hid h1
  obtain ⟨i0, hi, hz0, hz1, hz2⟩ := info_parts info3
  have HI := Lib.hid hi
  have HZ0 := Lib.hid hz0
  have HZ1 := Lib.hid hz1
  have HZ2 := Lib.hid hz2
  clear hq h1 hi hz0 hz1 hz2
  go_enter Try.func25, Try.ntmps25
  go_wp2
  go_loopw [3, 4] (fun v i wr => ∃ k : Nat, k ≤ 12 ∧ i = .int .i64 k ∧ FillI w wr (zonesTo L k) v) (fun _ i _ => 12 - (intOf i).toNat)
  case atStart => exact ⟨0, Nat.zero_le _, rfl, fill0 w⟩
  case round =>
    obtain ⟨k, hk, rfl, hr⟩ := hrel
    have HR := Lib.hid hr
    clear hr
    have hlen := zonesTo_len L k
    by_cases hlt : k < 12
    · have HNX := Lib.hid (zonesTo_next L k)
      obtain ⟨p, hp⟩ : ∃ p : SiteD → Bool, p = fun s => s.zones.contains (k : Int) := ⟨_, rfl⟩
      rw [← hp] at HNX
      have HP := Lib.hid hp
      clear hp
      obtain ⟨M, hM⟩ : ∃ M, zonesTo L k = M := ⟨_, rfl⟩
      rw [hM] at HR hlen HNX
      clear hM
      go_wp2
      rw [show decide ((k : Int) < 12) = true from decide_eq_true (by omega)]
      go_loopw [3, 5] (fun v i wx => ∃ j : Nat, j ≤ q ∧ i = .int .i64 j ∧ noneS p L j ∧ FillI w wx M v) (fun _ i _ => q - (intOf i).toNat)
      case atStart => exact ⟨0, Nat.zero_le _, rfl, by simp [noneS], HR.out⟩
      case round =>
        clear HR
        obtain ⟨j, hj, rfl, hno, hr⟩ := hrel
        have HR := Lib.hid hr
        have HNO := Lib.hid hno
        obtain ⟨VA, vc, rfl, _, _, _, _⟩ := own_sl hr.own
        have hlw := hr.x.size
        clear hr hno
        by_cases hjl : j < q
        · have hkl : j < L.length := by rw [← HQ.out]; exact hjl
          obtain ⟨s, hs⟩ : ∃ s, L[j]? = some s := ⟨_, List.getElem?_eq_getElem hkl⟩
          obtain ⟨b, o, rfl, hsite⟩ := H1.out j s hs
          have hsite := hsite.ext HR.out.x
          obtain ⟨Z, zc, k1, _, k2, _, k3⟩ := hsite.zones
          have HS := Lib.hid hs
          have HHA := Lib.hid (Has_c Z s.zones zc (k : Int) wr (by omega) k3)
          have HPS : Hid (hasB s.zones k = p s) := by show _ = _; rw [HP.out]; rfl
          rw [HPS.out] at HHA
          clear hs hsite hkl k2 k3
          cases hps : p s with
          | true =>
            rw [hps] at HHA
            have HE : Hid (zonesTo L (k + 1) = M ++ [(k : Int)]) := by show _ = _; rw [HNX.out, if_pos (anyS_here HS.out hps)]
            clear hps
            go_wp2_with (first | (go_at_call 34; refine HHA.out.mono ?_; rintro e w' ⟨rfl, rfl⟩) | (at_builtin; refine wpList_append_sl rfl _ _ 23 rfl w.heap.size 3 i0 (.int .i64 0) 1 8 Try.underlying23 HI.out HZ0.out HZ1.out HZ2.out rfl (by decide) _ M.length (M.map (Value.int .i64)) rfl (HR.out.own.alloc _) (some ⟨wr.heap.size, 0, none⟩) 1 1 [.int .i64 (k : Int)] rfl (slc_new wr [.int .i64 (k : Int)] 3) rfl (by simp [Value.oneCell']) (by unfold maxLen; omega) (by omega) (by simp; omega) ?_; intro v3 w3 ho3 hg3 _h3; have HN3 := Lib.hid (HR.out.add ho3 hg3); obtain ⟨A3, c3', rfl, _, _, _, _⟩ := own_sl ho3; clear ho3 hg3 _h3))
            refine ⟨⟨k + 1, by omega, by go_num, by rw [HE.out]; exact HN3.out⟩, by simp [intOf]; omega⟩
          | false =>
            rw [hps] at HHA
            have HY := Lib.hid (anyS_next HNO.out HS.out hps)
            clear hps
            go_wp2_with (go_at_call 34; refine HHA.out.mono ?_; rintro e w' ⟨rfl, rfl⟩)
            go_round
            case rel => exact ⟨j + 1, by omega, by go_num, HY.out, HR.out⟩
            case measure => simp [intOf]; omega
        · have HE : Hid (zonesTo L (k + 1) = M) := by show _ = _; rw [HNX.out, if_neg (by rw [anyS_full HNO.out (by rw [← HQ.out]; omega)]; simp), List.append_nil]
          go_wp2
          refine ⟨⟨k + 1, by omega, by go_num, by rw [HE.out]; exact HR.out⟩, by simp [intOf]; omega⟩
    · obtain rfl : k = 12 := by omega
      obtain ⟨VA, vc, rfl, _, _, _, _⟩ := own_sl HR.out.own
      go_wp2
      go_ret
      exact ⟨_, rfl, HR.out.own, HR.out.x⟩
theorem Zones_c (A : Option Addr) (L : List SiteD) (c1 : Nat) (w : World) (hL : L.length ≤ c1) (h1 : Sites w A L) (hg : Glob w) :
    Calls Try.prog 15 #[.slice A L.length c1] w (LFRet w (if Plain.sitesF L = (0, 0) then Plain.zonesF L else []) (Plain.sitesF L)) := by
  have HX0 := Lib.hid ((Ext.refl w).alloc (.cells #[.int .i64 0, .int .i64 0] 25))
  have HV := Lib.hid (Validate_c A L c1 (w.alloc (.cells #[.int .i64 0, .int .i64 0] 25)) hL (h1.ext HX0.out) (hg.ext HX0.out))
  have HZ := Lib.hid (fun w1 (x : Ext w w1) => zones_c A L c1 w1 (h1.ext x))
  obtain ⟨⟨f1, f2⟩, hf⟩ : ∃ f, Plain.sitesF L = f := ⟨_, rfl⟩
  rw [hf] at HV HZ ⊢
  have HF := Lib.hid hf
  clear hf h1 hg
  by_cases g1 : f1 = 0
  · have h2' : f2 = 0 := by
      have := sitesF_code L (by rw [HF.out]; exact g1)
      rw [HF.out] at this
      injection this
    subst g1
    subst h2'
    rw [if_pos rfl]
    go_enter Try.func15, Try.ntmps15
    go_wp2_with (first | (go_at_call 22; refine HV.out.mono ?_; rintro e w1 ⟨rfl, hx⟩; have hb := (FBlk.new w 0 0).ext hx; have z0 := hb.c0; have z1 := hb.c1; have y0 := hb.z 0; have y1 := hb.z 1; have HX := Lib.hid (ext_new hx); have HB := Lib.hid hb; have hlt := new_lt hx; clear hb hx) | (go_at_call 49; refine (HZ.out _ (HX.out.alloc _) (by trivial)).mono ?_; rintro e w3 ⟨v3, rfl, ho3, hx3⟩; have hb3 := (HB.out.alloc _).ext hx3; have p0 := hb3.c0; have p1 := hb3.c1; have q0 := hb3.z 0; have q1 := hb3.z 1; have HB3 := Lib.hid hb3; have HO3 := Lib.hid ho3; have hbs : w.heap.size < (w1.alloc (.cells #[.int .i64 0, .int .i64 0] 25)).heap.size := alloc_lt hlt _; have HX3 := Lib.hid ((HX.out.alloc _).trans hx3); obtain ⟨A3, d3, rfl, _, _, _, _⟩ := own_sl ho3; clear ho3 hb3 hx3))
    refine bodyPost_ret (v := .tuple #[_, .agg #[.int .i64 0, .int .i64 0]]) (lf_res Try.results15 _ _ w.heap.size (_, _) _ rfl rfl ?_) rfl ⟨_, rfl, ?_, ?_⟩
    · exact HB3.out.set _ _
    · exact own_mono (own_set (own_set HO3.out hbs 0 _) hbs 1 _) (Nat.le_of_lt hbs)
    · exact HX3.out.set2 _ _
  · rw [if_neg (by intro h; apply g1; injection h)]
    go_enter Try.func15, Try.ntmps15
    go_wp2_with (first | (go_at_call 22; refine HV.out.mono ?_; rintro e w1 ⟨rfl, hx⟩; have hb := (FBlk.new w 0 0).ext hx; have z0 := hb.c0; have z1 := hb.c1; have y0 := hb.z 0; have y1 := hb.z 1; have HX := Lib.hid (ext_new hx); have HB := Lib.hid hb; have hlt := new_lt hx; clear hb hx))
    go_region
    all_goals go_wp2
    all_goals refine bodyPost_ret (v := .tuple #[.slice none 0 0, .agg #[.int .i64 f1, .int .i64 f2]]) (lf_res Try.results15 _ _ w.heap.size (_, _) _ rfl rfl ?_) rfl ⟨_, rfl, nil_owns _ _ _, ?_⟩
    all_goals first | exact ((HB.out.set _ _).alloc _).drew | exact ((HX.out.set2 _ _).alloc _).drew
end Go.Proofs.Ytbhcaniopdgjkaa
namespace Go.Proofs.Ytbhcaniopdgjkaa
open Go Go.Proofs Go.RowKit
open Plain (SiteD)
set_option maxHeartbeats 3200000
set_option maxRecDepth 100000
/-- One set of lost zones is looked at. -/
def stepW (L : List SiteD) (ch : List Int) (c : List Int) (S : List Int × Int) : List Int × Int :=
  if ((Plain.leftF L ch c).length : Int) < S.2 then (c, ((Plain.leftF L ch c).length : Int)) else S
def visS (L : List SiteD) (ch : List Int) (m : Nat) (l p : List Int) (S : List Int × Int) : List Int × Int := (Plain.combs m l).foldl (fun S c => stepW L ch (p ++ c) S) S
theorem visS_zero (L : List SiteD) (ch l p : List Int) (S : List Int × Int) : visS L ch 0 l p S = stepW L ch p S := by simp [visS, Plain.combs]
theorem visS_cons (L : List SiteD) (ch : List Int) (m : Nat) (x : Int) (r p : List Int) (S : List Int × Int) : visS L ch (m + 1) (x :: r) p S = visS L ch (m + 1) r p (visS L ch m r (p ++ [x]) S) := by
  unfold visS
  rw [Plain.combs, List.foldl_append, List.foldl_map]
  simp only [List.append_assoc, List.singleton_append]
theorem visS_short (L : List SiteD) (ch : List Int) (m : Nat) (l p : List Int) (S : List Int × Int) (h : l.length < m) : visS L ch m l p S = S := by
  have : Plain.combs m l = [] := by
    cases hc : Plain.combs m l with
    | nil => rfl
    | cons c r =>
      have := (Plain.mem_combs m l c).1 (by rw [hc]; simp)
      have := this.1.length_le
      omega
  unfold visS
  rw [this]; rfl
/-- The worlds in which the sets are visited. -/
structure Vis (w0 Ws wr : World) (gr gw bf cnt : Nat) (p : List Int) (S : List Int × Int) : Prop where
  os : wr.os = Ws.os
  tape : wr.tape = Ws.tape
  output : wr.output = Ws.output
  size : Ws.heap.size ≤ wr.heap.size
  keep : ∀ b, b < Ws.heap.size → b ≠ gr → b ≠ gw → b ≠ bf → wr.heap[b]? = Ws.heap[b]?
  row : ∃ cur, wr.heap[gr]? = some (.cells cur 3 (0, 0)) ∧ cur.size = cnt ∧ cur.toList.take p.length = p.map (Value.int .i64)
  wor : wr.heap[gw]? = some (.cells (S.1.map (Value.int .i64)).toArray 3 (0, 0))
  worl : S.1.length = cnt
  few : wr.heap[bf]? = some (.cells #[.int .i64 S.2] 3 (0, 0))
section
variable {w0 Ws wr w1 : World} {gr gw bf cnt : Nat} {p : List Int} {S : List Int × Int}
theorem Vis.ext (h : Vis w0 Ws wr gr gw bf cnt p S) (e : Ext wr w1) : Vis w0 Ws w1 gr gw bf cnt p S := by
  obtain ⟨cur, c1, c2, c3⟩ := h.row
  refine ⟨e.os.trans h.os, e.tape.trans h.tape, e.output.trans h.output, Nat.le_trans h.size e.size, fun b hb h1 h2 h3 => ?_, ⟨cur, ext_blk e c1, c2, c3⟩, ext_blk e h.wor, h.worl, ext_blk e h.few⟩
  rw [← h.keep b hb h1 h2 h3]
  exact e.block b (Nat.lt_of_lt_of_le hb h.size)
theorem Vis.cell (h : Vis w0 Ws wr gr gw bf cnt p S) {b i : Nat} {v : Value} (hc : Ws.cell? ⟨b, i, none⟩ = some v) (h1 : b ≠ gr) (h2 : b ≠ gw) (h3 : b ≠ bf) : wr.cell? ⟨b, i, none⟩ = some v := by
  have hb := World.block_lt_of_cell? Ws _ hc
  rw [← hc]
  unfold World.cell?
  rw [h.keep b hb h1 h2 h3]
theorem Vis.x (h : Vis w0 Ws wr gr gw bf cnt p S) (e : Ext w0 Ws) (h1 : w0.heap.size ≤ gr) (h2 : w0.heap.size ≤ gw) (h3 : w0.heap.size ≤ bf) : Ext w0 wr := by
  refine ⟨h.os.trans e.os, h.tape.trans e.tape, h.output.trans e.output, Nat.le_trans e.size h.size, fun b hb => ?_⟩
  have : b < Ws.heap.size := Nat.lt_of_lt_of_le hb e.size
  rw [h.keep b this (by omega) (by omega) (by omega)]
  exact e.block b hb
theorem Vis.sl (h : Vis w0 Ws wr gr gw bf cnt p S) : Sl wr .i64 (some ⟨gr, 0, none⟩) p := by
  obtain ⟨cur, c1, c2, c3⟩ := h.row
  refine Sl.mk fun i x hx => ⟨_, rfl, ?_⟩
  have hadd : (⟨gr, 0, none⟩ : Addr).add i = ⟨gr, i, none⟩ := by unfold Addr.add; split <;> simp_all
  rw [hadd, blk_cell c1]
  have hi : i < p.length := (List.getElem?_eq_some_iff.1 hx).1
  have : (cur.toList.take p.length)[i]? = (p.map (Value.int .i64))[i]? := by rw [c3]
  rw [List.getElem?_take, if_pos hi, List.getElem?_map, hx] at this
  simpa using this
theorem Vis.pre {q : List Int} (h : Vis w0 Ws wr gr gw bf cnt (p ++ q) S) : Vis w0 Ws wr gr gw bf cnt p S := by
  obtain ⟨cur, c1, c2, c3⟩ := h.row
  refine ⟨h.os, h.tape, h.output, h.size, h.keep, ⟨cur, c1, c2, ?_⟩, h.wor, h.worl, h.few⟩
  have := congrArg (List.take p.length) c3
  rw [List.take_take, List.length_append, Nat.min_eq_left (by omega), List.map_append, List.take_left' (by simp)] at this
  exact this
/-- A number is put into the row. -/
theorem Vis.put (h : Vis w0 Ws wr gr gw bf cnt p S) (n1 : gr ≠ gw) (n2 : gr ≠ bf) (x : Int) (hp : p.length < cnt) : Vis w0 Ws (wr.setCell ⟨gr, p.length, none⟩ (.int .i64 x)) gr gw bf cnt (p ++ [x]) S := by
  obtain ⟨cur, c1, c2, c3⟩ := h.row
  refine ⟨h.os, h.tape, h.output, by rw [show (wr.setCell ⟨gr, p.length, none⟩ (.int .i64 x)).heap.size = wr.heap.size by simp [World.setCell]]; exact h.size, fun b hb h1 h2 h3 => ?_, ⟨cur.setIfInBounds p.length (.int .i64 x), ?_, by simpa using c2, ?_⟩, ?_, h.worl, ?_⟩
  · rw [Below.heap_setCell _ _ _ _ h1]; exact h.keep b hb h1 h2 h3
  · simp only [World.setCell, Array.getElem?_modify, c1, if_true]; rfl
  · rw [List.length_append, List.length_singleton, List.map_append, Array.toList_setIfInBounds]
    have hl : p.length < cur.toList.length := by simp; omega
    rw [List.take_succ_eq_append_getElem (by simpa using hl), List.take_set_of_le (Nat.le_refl _), c3]
    simp
  · rw [Below.heap_setCell _ _ _ _ (Ne.symm n1)]; exact h.wor
  · rw [Below.heap_setCell _ _ _ _ (Ne.symm n2)]; exact h.few
end
theorem Vis.drewN {w0 Ws wr : World} {gr gw bf cnt : Nat} {p : List Int} {S : List Int × Int} (h : Vis w0 Ws wr gr gw bf cnt p S) (n : Nat) : Vis w0 Ws (wr.drewN n) gr gw bf cnt p S := h.ext ((Ext.refl wr).drewN n)
theorem setCells_blk {b : Nat} {e : TypeId} {fr : Nat × Nat} : ∀ (vs : List Value) (o : Nat) (w : World) (cur : Array Value), w.heap[b]? = some (.cells cur e fr) →
    ∃ cur', (w.setCells b o vs).heap[b]? = some (.cells cur' e fr) ∧ cur'.size = cur.size
  | [], _, _, cur, h => ⟨cur, h, rfl⟩
  | v :: vs, o, w, cur, h => by
    have h1 : (w.setCell ⟨b, o, none⟩ v).heap[b]? = some (.cells (cur.setIfInBounds o v) e fr) := by
      simp only [World.setCell, Array.getElem?_modify, h, if_true]; rfl
    obtain ⟨c', h2, h3⟩ := setCells_blk vs (o + 1) (w.setCell ⟨b, o, none⟩ v) _ h1
    exact ⟨c', h2, by rw [h3]; simp⟩
theorem setCells_other {b k : Nat} (hk : k ≠ b) : ∀ (vs : List Value) (o : Nat) (w : World), (w.setCells b o vs).heap[k]? = w.heap[k]?
  | [], _, _ => rfl
  | v :: vs, o, w => by
    show ((w.setCell ⟨b, o, none⟩ v).setCells b (o + 1) vs).heap[k]? = _
    rw [setCells_other hk, Below.heap_setCell _ _ _ _ hk]
theorem setCells_size {b : Nat} : ∀ (vs : List Value) (o : Nat) (w : World), (w.setCells b o vs).heap.size = w.heap.size
  | [], _, _ => rfl
  | v :: vs, o, w => by
    show ((w.setCell ⟨b, o, none⟩ v).setCells b (o + 1) vs).heap.size = _
    rw [setCells_size]; simp [World.setCell]
theorem setCells_os {b : Nat} : ∀ (vs : List Value) (o : Nat) (w : World), (w.setCells b o vs).os = w.os ∧ (w.setCells b o vs).tape = w.tape ∧ (w.setCells b o vs).output = w.output
  | [], _, _ => ⟨rfl, rfl, rfl⟩
  | v :: vs, o, w => setCells_os vs (o + 1) (w.setCell ⟨b, o, none⟩ v)
/-- The whole of one row over another. -/
theorem copy_run (w : World) (ty : TypeId) (b b2 n : Nat) (cur cs : Array Value) (hb : w.heap[b]? = some (.cells cur 3 (0, 0))) (hc : cur.size = n) (hb2 : w.heap[b2]? = some (.cells cs 3 (0, 0))) (hs : cs.size = n) (h1 : ∀ v ∈ cs.toList, v.oneCell' = true) :
    ∃ w', (Builtin.copy_ #[23, 23] ty #[.slice (some ⟨b, 0, none⟩) n n, .slice (some ⟨b2, 0, none⟩) n n]).run Try.prog w = .ok (goInt n) w' ∧ w'.heap[b]? = some (.cells cs 3 (0, 0)) ∧ (∀ k, k ≠ b → w'.heap[k]? = w.heap[k]?) ∧ w'.heap.size = w.heap.size ∧ w'.os = w.os ∧ w'.tape = w.tape ∧ w'.output = w.output := by
  have hcell : ∀ j, j < cs.toList.length → (w.cell? ⟨b, 0 + j, none⟩).isSome = true := by
    intro j hj
    rw [blk_cell hb]
    have : j < cs.size := by simpa using hj
    rw [Array.getElem?_eq_getElem (by omega)]
    rfl
  have hr := run_copy_cells (P := Try.prog) w 23 23 ty 3 b 0 n n ⟨b2, 0, none⟩ n n cs.toList Try.underlying23 (by have := info3; revert this; cases Try.prog.info? 3 with | none => intro h; cases h | some i => intro h; injection h with h; injection h with h h2; injection h2 with h2 h3; simp [h2]) (by simp [hs]) (by
      intro j v hv
      have hadd : (⟨b2, 0, none⟩ : Addr).add j = ⟨b2, j, none⟩ := by unfold Addr.add; split <;> simp_all
      rw [hadd, blk_cell hb2]
      simpa using hv) hcell (fun j _ => blk_frozen hb _) h1
  rw [show cs.toList.length = n by simpa using hs] at hr
  refine ⟨_, hr, ?_, fun k hk => setCells_other hk _ _ _, setCells_size _ _ _, (setCells_os _ _ _).1, (setCells_os _ _ _).2.1, (setCells_os _ _ _).2.2⟩
  obtain ⟨c', e1, e2⟩ := setCells_blk cs.toList 0 w cur hb
  rw [e1]
  congr 2
  apply Array.ext_getElem?
  intro j
  by_cases hj : j < n
  · have h3 := World.cell?_setCells_in b cs.toList 0 w hcell j (by simp; omega)
    rw [blk_cell e1, Nat.zero_add] at h3
    rw [h3]
    simp
  · rw [Array.getElem?_eq_none (by omega), Array.getElem?_eq_none (by omega)]
end Go.Proofs.Ytbhcaniopdgjkaa
