import Derived.Test.YtbhcaniopdgjkaaMg21
namespace Go.Proofs.Ytbhcaniopdgjkaa
open Go Go.Proofs Go.RowKit
open Plain (SiteD)
set_option maxHeartbeats 1000000
set_option maxRecDepth 100000
def sortN (g : List Nat) : List Nat := (sortI (g.map Int.ofNat)).map Int.toNat
theorem sortN_ints (g : List Nat) : (sortN g).map Int.ofNat = sortI (g.map Int.ofNat) := by
  unfold sortN
  rw [List.map_map]
  conv => rhs; rw [← List.map_id (sortI (g.map Int.ofNat))]
  apply List.map_congr_left
  intro x hx
  rw [sortI_mem] at hx
  obtain ⟨y, _, rfl⟩ := List.mem_map.1 hx
  simp
theorem sortN_law (g : List Nat) (h : g.Nodup) : (sortN g).Pairwise (· < ·) ∧ ∀ x, x ∈ sortN g ↔ x ∈ g := by
  have hm : ∀ x, x ∈ sortN g ↔ x ∈ g := by
    intro x
    unfold sortN
    rw [List.mem_map]
    constructor
    · rintro ⟨y, hy, rfl⟩
      rw [sortI_mem] at hy
      obtain ⟨z, hz, rfl⟩ := List.mem_map.1 hy
      simpa using hz
    · intro hx
      exact ⟨x, by rw [sortI_mem]; exact List.mem_map.2 ⟨x, hx, rfl⟩, by simp⟩
  refine ⟨?_, hm⟩
  have h1 := sortI_sorted (g.map Int.ofNat)
  have h2 : (sortI (g.map Int.ofNat)).Nodup := by
    refine (List.Perm.nodup_iff (List.mergeSort_perm _ _)).2 ?_
    show List.Pairwise (· ≠ ·) _
    rw [List.pairwise_map]
    exact h.imp fun hne e => hne (Int.ofNat.inj e)
  unfold sortN
  rw [List.pairwise_map]
  have h3 := List.Pairwise.and h1 h2
  refine (List.Pairwise.and_mem.1 h3).imp ?_
  rintro a b ⟨ha, hb, h4, h5⟩
  rw [sortI_mem] at ha hb
  obtain ⟨x, _, rfl⟩ := List.mem_map.1 ha
  obtain ⟨y, _, rfl⟩ := List.mem_map.1 hb
  simp at h4 h5 ⊢
  omega
/-- What Parts finds. -/
def partsN (L : List SiteD) : List (List Nat) := Plain.partsGo (adjF L) L.length sortN (List.range L.length) [] []
def intsL (P : List (List Nat)) : List (List Int) := P.map fun g => g.map Int.ofNat
structure PInv (L : List SiteD) (i : Nat) (acc : List Nat) (PN : List (List Nat)) : Prop where
  eq : Plain.partsGo (adjF L) L.length sortN ((List.range L.length).drop i) acc PN = partsN L
  lt : ∀ x ∈ acc, x < L.length
  nodup : acc.Nodup
  len : PN.length ≤ i
theorem pinv0 (L : List SiteD) : PInv L 0 [] [] := ⟨rfl, by simp, by simp, Nat.le_refl _⟩
theorem range_drop {n i : Nat} (h : i < n) : (List.range n).drop i = i :: (List.range n).drop (i + 1) := drop_cons (by simp [h])
theorem PInv.skip {L : List SiteD} {i : Nat} {acc : List Nat} {PN : List (List Nat)} (h : PInv L i acc PN) (hi : i < L.length) (hs : acc.contains i = true) : PInv L (i + 1) acc PN := by
  refine ⟨?_, h.lt, h.nodup, by have := h.len; omega⟩
  rw [← h.eq, range_drop hi, Plain.partsGo, if_pos hs]
theorem PInv.take {L : List SiteD} {i : Nat} {acc g : List Nat} {PN : List (List Nat)} (h : PInv L i acc PN) (hi : i < L.length) (hs : i ∉ acc) (hg : Plain.visit (adjF L) L.length L.length i acc = acc ++ g) : PInv L (i + 1) (acc ++ g) (PN ++ [sortN g]) := by
  have hp := Plain.visit_post (adjF L) L.length L.length i acc (Plain.unseen_le _ _) hi hs h.lt h.nodup
  rw [hg] at hp
  refine ⟨?_, hp.lt, hp.nodup, by have := h.len; simp; omega⟩
  rw [← h.eq, range_drop hi, Plain.partsGo, if_neg (by simpa using hs), hg, List.drop_left]
theorem PInv.done {L : List SiteD} {i : Nat} {acc : List Nat} {PN : List (List Nat)} (h : PInv L i acc PN) (hi : L.length ≤ i) : PN = partsN L := by
  rw [← h.eq, List.drop_of_length_le (by simpa using hi), Plain.partsGo]
theorem intsL_add (PN : List (List Nat)) (g : List Nat) : intsL (PN ++ [sortN g]) = intsL PN ++ [sortI (g.map Int.ofNat)] := by
  unfold intsL; rw [List.map_append, List.map_singleton, sortN_ints]
/-- Lists of sites and a fault are returned. -/
def PRet (w : World) (P : List (List Int)) (f : Int × Int) (e : Ending) (w' : World) : Prop :=
  ∃ v vs, e = .returned (.tuple #[v, .agg #[.int .i64 f.1, .int .i64 f.2]]) ∧ w'.ownsRow w.heap.size 23 1 v P.length vs ∧
    (∀ (j : Nat) (g : List Int), P[j]? = some g → ∃ (blk c : Nat), vs[j]? = some (.slice (some ⟨blk, 0, none⟩) g.length c) ∧ g.length ≤ c ∧ c ≤ maxLen ∧ Sl w' .i64 (some ⟨blk, 0, none⟩) g) ∧ Ext w w'
theorem parts_end {w Wb wr : World} {G q g : Nat} {acc : List Nat} {P : List (List Int)} {v6 : Value} {vs : List Value} (h : OutP Wb wr G q acc P v6 vs) (x : Ext w Wb) (h1 : w.heap.size ≤ G) (hg : w.heap.size ≤ g) (hgb : g < Wb.heap.size) {a b : Int} (_h : True := trivial) :
    ((wr.setCell ⟨g, 0, none⟩ (.int .i64 a)).setCell ⟨g, 1, none⟩ (.int .i64 b)).ownsRow w.heap.size 23 1 v6 P.length vs ∧
    (∀ (j : Nat) (r : List Int), P[j]? = some r → ∃ (blk c : Nat), vs[j]? = some (.slice (some ⟨blk, 0, none⟩) r.length c) ∧ r.length ≤ c ∧ c ≤ maxLen ∧ Sl ((wr.setCell ⟨g, 0, none⟩ (.int .i64 a)).setCell ⟨g, 1, none⟩ (.int .i64 b)) .i64 (some ⟨blk, 0, none⟩) r) ∧
    Ext w ((wr.setCell ⟨g, 0, none⟩ (.int .i64 a)).setCell ⟨g, 1, none⟩ (.int .i64 b)) := by
  refine ⟨own_mono (ownsRow_setCell_below (ownsRow_setCell_below h.own (a := ⟨g, 0, none⟩) hgb _) (a := ⟨g, 1, none⟩) hgb _) x.size, fun j r hr => ?_, (h.x x h1).set2at hg _ _⟩
  obtain ⟨blk, c, cur, r1, r2, r3, r4, r5, r6, r7, r8⟩ := h.rows j r hr
  have hb : ((wr.setCell ⟨g, 0, none⟩ (.int .i64 a)).setCell ⟨g, 1, none⟩ (.int .i64 b)).heap[blk]? = some (.cells cur 3 (0, 0)) := by
    rw [Below.heap_setCell _ _ _ _ (show blk ≠ g by omega), Below.heap_setCell _ _ _ _ (show blk ≠ g by omega)]; exact r3
  refine ⟨blk, c, r1, r4, r5, Sl.mk fun i x hx => ⟨_, rfl, ?_⟩⟩
  have hadd : (⟨blk, 0, none⟩ : Addr).add i = ⟨blk, i, none⟩ := by unfold Addr.add; split <;> simp_all
  rw [hadd, blk_cell hb]
  have hi : i < r.length := (List.getElem?_eq_some_iff.1 hx).1
  have : (cur.toList.take r.length)[i]? = (r.map (Value.int .i64))[i]? := by rw [r7]
  rw [List.getElem?_take, if_pos hi, List.getElem?_map, hx] at this
  simpa using this
theorem row_form {w : World} {base : Nat} {e : TypeId} {WA : Option Addr} {n c : Nat} {xs : List Value} (h : w.ownsRow base e 1 (.slice WA n c) n xs) (hn : n ≠ 0) : ∃ blk cur, WA = some ⟨blk, 0, none⟩ ∧ base ≤ blk ∧ w.heap[blk]? = some (.cells cur e (0, 0)) ∧ n ≤ c ∧ c ≤ maxLen ∧ cur.size = c ∧ cur.toList.take n = xs := by
  rcases h.2 with ⟨_, h0⟩ | ⟨g, cap, cur, he, h1, h2, h3, h4, h5, h6⟩
  · exact absurd h0 hn
  · injection he with e1 e2 e3
    subst e3
    rw [Nat.mul_one] at h5 h6
    exact ⟨g, cur, e1, h1, h2, h3, h4, h5, h6⟩
theorem group_len {L : List SiteD} {i : Nat} {acc g : List Nat} {PN : List (List Nat)} (h : PInv L i acc PN) (hi : i < L.length) (hs : i ∉ acc) (hg : Plain.visit (adjF L) L.length L.length i acc = acc ++ g) : 0 < g.length ∧ g.length ≤ L.length := by
  have hp := Plain.visit_post (adjF L) L.length L.length i acc (Plain.unseen_le _ _) hi hs h.lt h.nodup
  rw [hg] at hp
  have h1 := nodup_len hp.nodup hp.lt
  rw [List.length_append] at h1
  refine ⟨?_, by omega⟩
  rcases List.mem_append.1 hp.self with h2 | h2
  · exact absurd h2 hs
  · exact List.length_pos_of_mem h2
theorem out_add {Wb wr w3 : World} {G q : Nat} {acc g : List Nat} {P : List (List Int)} {v6 v3 : Value} {vs : List Value} {blk c : Nat} {cur : Array Value} {o : Obj} (h : OutP Wb wr G q acc P v6 vs) (hG : G < Wb.heap.size)
    (hg1 : wr.heap[blk]? = some (.cells cur 3 (0, 0))) (hg2 : Wb.heap.size ≤ blk) (hg3 : g.length ≤ c) (hg4 : c ≤ maxLen) (hg5 : cur.size = c) (hg6 : cur.toList.take g.length = (sortI (g.map Int.ofNat)).map (Value.int .i64)) (hg7 : v6.ownBlock ≠ some blk)
    (ho : w3.ownsRow Wb.heap.size 23 1 v3 (P.length + 1) (vs ++ [.slice (some ⟨blk, 0, none⟩) g.length c])) (hgr : (wr.alloc o).grownBy w3 v6.ownBlock) (hat : v3.ownBlock = v6.ownBlock ∨ v3.ownBlock = some (wr.alloc o).heap.size) : OutP Wb w3 G q acc (P ++ [sortI (g.map Int.ofNat)]) v3 (vs ++ [.slice (some ⟨blk, 0, none⟩) g.length c]) := by
  have hl : (sortI (g.map Int.ofNat)).length = g.length := by rw [sortI_len, List.length_map]
  have := h.add (g := sortI (g.map Int.ofNat)) hG hg1 hg2 (by rw [hl]; exact hg3) hg4 hg5 (by rw [hl]; exact hg6) hg7 (by rw [hl]; exact ho) hgr hat
  rw [hl] at this
  exact this
theorem Parts_c (A : Option Addr) (L : List SiteD) (c1 : Nat) (w : World) (hL : L.length ≤ c1) (h1 : Sites w A L) (hg : Glob w) :
    Calls Try.prog 16 #[.slice A L.length c1] w (PRet w (if Plain.sitesF L = (0, 0) then intsL (partsN L) else []) (Plain.sitesF L)) := by
  have HX0 := Lib.hid (((Ext.refl w).alloc (.cells #[.slice A L.length c1] 22)).alloc (.cells #[.int .i64 0, .int .i64 0] 25))
  have HV := Lib.hid (Validate_c A L c1 ((w.alloc (.cells #[.slice A L.length c1] 22)).alloc (.cells #[.int .i64 0, .int .i64 0] 25)) hL (h1.ext HX0.out) (hg.ext HX0.out))
  have HB0 : Hid (FBlk ((w.alloc (.cells #[.slice A L.length c1] 22)).alloc (.cells #[.int .i64 0, .int .i64 0] 25)) (w.heap.size + 1) (0, 0)) := by
    show _ = _
    simp only [alloc_heap, alloc_size]
    rw [if_pos trivial]
  have HB1 : Hid (((w.alloc (.cells #[.slice A L.length c1] 22)).alloc (.cells #[.int .i64 0, .int .i64 0] 25)).heap[w.heap.size]? = some (.cells #[.slice A L.length c1] 22 (0, 0))) := by
    show _ = _
    simp only [alloc_heap, alloc_size]
    rw [if_neg (by omega), if_pos trivial]
  obtain ⟨⟨f1, f2⟩, hf⟩ : ∃ f, Plain.sitesF L = f := ⟨_, rfl⟩
  rw [hf] at HV ⊢
  have HF := Lib.hid hf
  have HH1 := Lib.hid h1
  clear hf h1 hg
  by_cases g1 : f1 = 0
  · have h2' : f2 = 0 := by
      have := sitesF_code L (by rw [HF.out]; exact g1)
      rw [HF.out] at this
      injection this
    subst g1
    subst h2'
    rw [if_pos rfl]
    have hL10 := sitesF_len HF.out
    obtain ⟨q, hq⟩ : ∃ q, q = L.length := ⟨_, rfl⟩
    rw [← hq] at HV HB1 HB0 HX0 hL hL10 ⊢
    have HQ := Lib.hid hq
    clear hq
    have hmk := fun w' : World => make_bools w' q (by omega)
    go_enter Try.func16, Try.ntmps16
    go_wp2_with (first | (go_at_call 22; refine HV.out.mono ?_; rintro e w1 ⟨rfl, hx⟩; have hb := HB0.out.ext hx; have hb1 := ext_blk hx HB1.out; have x1 : w1.cell? ⟨w.heap.size, 0, none⟩ = some (.slice A q c1) := blk_cell hb1 0; have z0 := hb.c0; have z1 := hb.c1; have y0 := hb.z 0; have y1 := hb.z 1; have HX := Lib.hid (HX0.out.trans hx); have HB := Lib.hid hb; have HBB1 := Lib.hid hb1; have hlt1 : w.heap.size + 1 < w1.heap.size := blk_lt hb; have hlt0 : w.heap.size < w1.heap.size := blk_lt hb1; have hlt2 : w.heap.size < w1.heap.size + 1 := Nat.lt_succ_of_lt hlt0; clear hb hx hb1))
    have hxb := (((Ext.refl w1).alloc (.cells #[.int .i64 0, .int .i64 0] 25)).alloc (.cells (seenRow q []) 4)).alloc (.cells #[.slice (some ⟨w1.heap.size + 1, 0, none⟩) q q] 73)
    have hG : (((w1.alloc (.cells #[.int .i64 0, .int .i64 0] 25)).alloc (.cells (seenRow q []) 4)).alloc (.cells #[.slice (some ⟨w1.heap.size + 1, 0, none⟩) q q] 73)).heap[w1.heap.size + 1]? = some (.cells (seenRow q []) 4 (0, 0)) := by
      simp only [alloc_heap, alloc_size]
      rw [if_neg (by omega), if_pos trivial]
    have hBs : (((w1.alloc (.cells #[.int .i64 0, .int .i64 0] 25)).alloc (.cells (seenRow q []) 4)).alloc (.cells #[.slice (some ⟨w1.heap.size + 1, 0, none⟩) q q] 73)).heap[w1.heap.size + 1 + 1]? = some (.cells #[.slice (some ⟨w1.heap.size + 1, 0, none⟩) q q] 73 (0, 0)) := by
      simp only [alloc_heap, alloc_size]
      rw [if_pos trivial]
    generalize ((w1.alloc (.cells #[.int .i64 0, .int .i64 0] 25)).alloc (.cells (seenRow q []) 4)).alloc (.cells #[.slice (some ⟨w1.heap.size + 1, 0, none⟩) q q] 73) = Wb at hxb hG hBs ⊢
    have HXB := Lib.hid (HX.out.trans hxb)
    have HGB := Lib.hid hG
    have HBS := Lib.hid hBs
    have HBL := Lib.hid (ext_blk hxb HBB1.out)
    have HRE := Lib.hid (HB.out.ext hxb)
    have hGlt : w1.heap.size + 1 < Wb.heap.size := blk_lt hG
    have hBlt : w1.heap.size + 1 + 1 < Wb.heap.size := blk_lt hBs
    clear hxb hG hBs HB HBB1 z0 z1 y0 y1 x1 hmk HX
    obtain ⟨i0, hi', hz0, hz1, hz2⟩ := info_parts info23
    have HI := Lib.hid hi'
    have HZ0 := Lib.hid hz0
    have HZ1 := Lib.hid hz1
    have HZ2 := Lib.hid hz2
    clear hi' hz0 hz1 hz2
    go_loopw [6, 21] (fun v s wr => ∃ i : Nat, i ≤ q ∧ s = .int .i64 i ∧ ∃ acc PN vs, PInv L i acc PN ∧ OutP Wb wr (w1.heap.size + 1) L.length acc (intsL PN) v vs) (fun _ s _ => q - (intOf s).toNat)
    case atStart => exact ⟨0, Nat.zero_le _, rfl, [], [], [], pinv0 L, OutP.start Wb _ _ (by rw [← HQ.out]; exact HGB.out)⟩
    case round =>
      obtain ⟨i, hi, rfl, acc, PN, vs, hinv, hout⟩ := hrel
      have HIN := Lib.hid hinv
      have HOUT := Lib.hid hout
      have hws := hout.size
      have e1 : wr.cell? ⟨w1.heap.size + 1 + 1, 0, none⟩ = some (.slice (some ⟨w1.heap.size + 1, 0, none⟩) q q) := blk_cell (hout.cell HBS.out (by omega)) 0
      have HFB : Hid (FBlk wr (w.heap.size + 1) (0, 0)) := hout.cell HRE.out (by omega)
      obtain ⟨VA, vc, rfl, _, _, _, _⟩ := own_sl hout.own
      clear hinv hout
      by_cases hiq : i < q
      · have hil : i < L.length := by rw [← HQ.out]; exact hiq
        have e4 : wr.cell? ⟨w1.heap.size + 1, i, none⟩ = some (.bool (acc.contains i)) := by rw [blk_cell HOUT.out.seen]; exact seenRow_at _ hil
        cases hsn : acc.contains i with
        | true =>
          rw [hsn] at e4
          have HNX := Lib.hid (HIN.out.skip hil hsn)
          clear hsn
          go_wp2
          exact ⟨⟨i + 1, by omega, by go_num, acc, PN, vs, HNX.out, HOUT.out⟩, by simp [intOf]; omega⟩
        | false =>
          have hni : i ∉ acc := by intro hm; rw [List.contains_iff_mem.2 hm] at hsn; cases hsn
          rw [hsn] at e4
          have hxs := ((Ext.refl wr).alloc (.cells #[.slice none 0 0] 23)).alloc (.cells #[(.func (.func 50) #[] #[.pointer (some ⟨w1.heap.size + 1 + 1, 0, none⟩), .pointer (some ⟨wr.heap.size, 0, none⟩), .pointer (some ⟨w.heap.size, 0, none⟩), .pointer (some ⟨wr.heap.size + 1, 0, none⟩)])] 74)
          have hw0 := HOUT.out.x HXB.out (by omega)
          have s1 : ((wr.alloc (.cells #[.slice none 0 0] 23)).alloc (.cells #[(.func (.func 50) #[] #[.pointer (some ⟨w1.heap.size + 1 + 1, 0, none⟩), .pointer (some ⟨wr.heap.size, 0, none⟩), .pointer (some ⟨w.heap.size, 0, none⟩), .pointer (some ⟨wr.heap.size + 1, 0, none⟩)])] 74)).heap[wr.heap.size]? = some (.cells #[.slice none 0 0] 23 (0, 0)) := by
            simp only [alloc_heap, alloc_size]
            rw [if_neg (by omega), if_pos trivial]
          have s2 : ((wr.alloc (.cells #[.slice none 0 0] 23)).alloc (.cells #[(.func (.func 50) #[] #[.pointer (some ⟨w1.heap.size + 1 + 1, 0, none⟩), .pointer (some ⟨wr.heap.size, 0, none⟩), .pointer (some ⟨w.heap.size, 0, none⟩), .pointer (some ⟨wr.heap.size + 1, 0, none⟩)])] 74)).heap[wr.heap.size + 1]? = some (.cells #[(.func (.func 50) #[] #[.pointer (some ⟨w1.heap.size + 1 + 1, 0, none⟩), .pointer (some ⟨wr.heap.size, 0, none⟩), .pointer (some ⟨w.heap.size, 0, none⟩), .pointer (some ⟨wr.heap.size + 1, 0, none⟩)])] 74 (0, 0)) := by
            simp only [alloc_heap, alloc_size]
            rw [if_pos trivial]
          have hwsz := hw0.size
          have hst : StatP w ((wr.alloc (.cells #[.slice none 0 0] 23)).alloc (.cells #[(.func (.func 50) #[] #[.pointer (some ⟨w1.heap.size + 1 + 1, 0, none⟩), .pointer (some ⟨wr.heap.size, 0, none⟩), .pointer (some ⟨w.heap.size, 0, none⟩), .pointer (some ⟨wr.heap.size + 1, 0, none⟩)])] 74)) (w1.heap.size + 1) wr.heap.size (w1.heap.size + 1 + 1) w.heap.size (wr.heap.size + 1) A L c1 :=
            ⟨hw0.trans hxs, by omega, by omega, by omega, by rw [alloc_size, alloc_size]; omega, by rw [alloc_size, alloc_size]; omega, by rw [← HQ.out]; exact hxs.cell e1, by rw [← HQ.out]; exact hxs.cell (blk_cell (HOUT.out.cell HBL.out (by omega)) 0), blk_cell s2 0, ⟨by omega, by omega⟩, ⟨by omega, by omega⟩, ⟨by omega, by omega⟩, HH1.out, by rw [← HQ.out]; exact hL10⟩
          have hvis : VisP ((wr.alloc (.cells #[.slice none 0 0] 23)).alloc (.cells #[(.func (.func 50) #[] #[.pointer (some ⟨w1.heap.size + 1 + 1, 0, none⟩), .pointer (some ⟨wr.heap.size, 0, none⟩), .pointer (some ⟨w.heap.size, 0, none⟩), .pointer (some ⟨wr.heap.size + 1, 0, none⟩)])] 74)) ((wr.alloc (.cells #[.slice none 0 0] 23)).alloc (.cells #[(.func (.func 50) #[] #[.pointer (some ⟨w1.heap.size + 1 + 1, 0, none⟩), .pointer (some ⟨wr.heap.size, 0, none⟩), .pointer (some ⟨w.heap.size, 0, none⟩), .pointer (some ⟨wr.heap.size + 1, 0, none⟩)])] 74)) (w1.heap.size + 1) wr.heap.size L.length acc [] :=
            ⟨rfl, rfl, rfl, Nat.le_refl _, fun _ _ _ _ => rfl, ext_blk hxs HOUT.out.seen, ⟨_, s1, World.ownsRow_nil _ _ _ _⟩⟩
          have HCALL := Lib.hid (visitP_c w _ _ _ _ _ _ A L c1 hst L.length i acc [] _ (Plain.unseen_le _ _) hil hni hvis (by simp) HIN.out.lt HIN.out.nodup)
          have HSE := Lib.hid (fun (wv w2 : World) (acc2 : List Nat) (grp : List Int) (v : VisP ((wr.alloc (.cells #[.slice none 0 0] 23)).alloc (.cells #[(.func (.func 50) #[] #[.pointer (some ⟨w1.heap.size + 1 + 1, 0, none⟩), .pointer (some ⟨wr.heap.size, 0, none⟩), .pointer (some ⟨w.heap.size, 0, none⟩), .pointer (some ⟨wr.heap.size + 1, 0, none⟩)])] 74)) wv (w1.heap.size + 1) wr.heap.size L.length acc2 grp) (hb : Below ((wr.alloc (.cells #[.slice none 0 0] 23)).alloc (.cells #[(.func (.func 50) #[] #[.pointer (some ⟨w1.heap.size + 1 + 1, 0, none⟩), .pointer (some ⟨wr.heap.size, 0, none⟩), .pointer (some ⟨w.heap.size, 0, none⟩), .pointer (some ⟨wr.heap.size + 1, 0, none⟩)])] 74)).heap.size wv w2) => HOUT.out.search hxs v (Nat.le_refl _) hGlt hb)
          have HTK := Lib.hid (fun g hg => HIN.out.take (g := g) hil hni hg)
          have hwlt : wr.heap.size < ((wr.alloc (.cells #[.slice none 0 0] 23)).alloc (.cells #[(.func (.func 50) #[] #[.pointer (some ⟨w1.heap.size + 1 + 1, 0, none⟩), .pointer (some ⟨wr.heap.size, 0, none⟩), .pointer (some ⟨w.heap.size, 0, none⟩), .pointer (some ⟨wr.heap.size + 1, 0, none⟩)])] 74)).heap.size := by rw [alloc_size, alloc_size]; omega
          clear hsn hxs s1 s2 hst hvis
          have HGL := Lib.hid (fun g hg => (⟨(group_len HIN.out hil hni (g := g) hg).1, Nat.le_trans (group_len HIN.out hil hni (g := g) hg).2 (by rw [← HQ.out]; exact hL10)⟩ : 0 < g.length ∧ g.length ≤ 10))
          have hsle : Wb.heap.size ≤ ((wr.alloc (.cells #[.slice none 0 0] 23)).alloc (.cells #[(.func (.func 50) #[] #[.pointer (some ⟨w1.heap.size + 1 + 1, 0, none⟩), .pointer (some ⟨wr.heap.size, 0, none⟩), .pointer (some ⟨w.heap.size, 0, none⟩), .pointer (some ⟨wr.heap.size + 1, 0, none⟩)])] 74)).heap.size := by rw [alloc_size, alloc_size]; omega
          go_wp2_with (first
            | (go_at_call 50; refine HCALL.out.mono ?_; rintro e wv ⟨rfl, g, hg, hv⟩; have HG := Lib.hid hg; have HV2 := Lib.hid hv; have hgl := HGL.out g hg; have hvs := hv.size; obtain ⟨v, hv1, hv2⟩ := hv.grp; rw [List.nil_append, List.length_map] at hv2; obtain ⟨WA, wc, rfl, _, _, _, _⟩ := own_sl hv2; have b1 := blk_cell hv1 0; have HV1 := Lib.hid hv1; have HSO := Lib.hid (sort_own wv _ (.slice WA g.length wc) (g.map Int.ofNat) (by rw [List.length_map]; exact hv2) (by rw [List.length_map]; omega) hvs); rw [List.length_map] at HSO; clear hg hv hv1 hv2)
            | (go_at_call 52; refine HSO.out.mono ?_; rintro e w2 ⟨rfl, ho2, hb2⟩; have hbg2 := (hb2.block _ hwlt).trans HV1.out; have b2 := blk_cell hbg2 0; have HO := Lib.hid (HSE.out wv w2 _ _ HV2.out hb2); obtain ⟨blk, cur, rfl, k1, k2, k3, k4, k5, k6⟩ := row_form ho2 (Nat.ne_of_gt hgl.1); have HK1 := Lib.hid (Nat.le_trans hsle k1); have HK2 := Lib.hid k2; have HK6 := Lib.hid k6; have HK0 := Lib.hid k1; have hpl : (intsL PN).length ≤ 10 := Nat.le_trans (by rw [intsL, List.length_map]; exact HIN.out.len) (Nat.le_of_lt (Nat.lt_of_lt_of_le hiq hL10)); have hws2 := HO.out.size; clear ho2 hb2 hbg2 k1 k2 k6)
            | (at_builtin; refine wpList_append_sl rfl _ _ 29 rfl Wb.heap.size 23 i0 (.slice none 0 0) 1 24 Try.underlying29 HI.out HZ0.out HZ1.out HZ2.out rfl (by decide) _ (intsL PN).length vs rfl (HO.out.own.alloc _) (some ⟨w2.heap.size, 0, none⟩) 1 1 [.slice (some ⟨blk, 0, none⟩) g.length wc] rfl (slc_new w2 [.slice (some ⟨blk, 0, none⟩) g.length wc] 23) rfl (by simp [Value.oneCell']) (by unfold maxLen; omega) (by omega) (by simp; omega) ?_; intro v3 w3 ho3 hg3 h3; have HN3 := Lib.hid (out_add HO.out hGlt HK2.out HK1.out k3 k4 k5 HK6.out (fun he => by have := (HOUT.out.vlt he).2; have := HK0.out; rw [alloc_size, alloc_size] at this; omega) ho3 hg3 h3); obtain ⟨A3, c3', rfl, _, _, _, _⟩ := own_sl ho3; clear ho3 hg3 h3))
          refine ⟨⟨i + 1, by omega, by go_num, acc ++ g, PN ++ [sortN g], vs ++ [.slice (some ⟨blk, 0, none⟩) g.length wc], HTK.out g HG.out, ?_⟩, by simp [intOf]; omega⟩
          rw [intsL_add]
          exact HN3.out
      · have HDN := Lib.hid (HIN.out.done (by rw [← HQ.out]; omega))
        have z0 := HFB.out.c0
        have z1 := HFB.out.c1
        have y0 := HFB.out.z 0
        have y1 := HFB.out.z 1
        have HPE := Lib.hid (parts_end HOUT.out HXB.out (by omega) (g := w.heap.size + 1) (by omega) (by omega) (a := 0) (b := 0))
        go_wp2
        refine bodyPost_ret (v := .tuple #[.slice VA (intsL PN).length vc, .agg #[.int .i64 0, .int .i64 0]]) (lf_res Try.results16 _ _ (w.heap.size + 1) (_, _) _ rfl rfl ?_) rfl ⟨_, vs, rfl, ?_, ?_, ?_⟩
        · exact HFB.out.set _ _
        · rw [← HDN.out]; exact HPE.out.1
        · rw [← HDN.out]; exact HPE.out.2.1
        · exact HPE.out.2.2
  · rw [if_neg (by intro h; apply g1; injection h)]
    go_enter Try.func16, Try.ntmps16
    go_wp2_with (first | (go_at_call 22; refine HV.out.mono ?_; rintro e w1 ⟨rfl, hx⟩; have hb := HB0.out.ext hx; have z0 := hb.c0; have z1 := hb.c1; have y0 := hb.z 0; have y1 := hb.z 1; have HX := Lib.hid (HX0.out.trans hx); have HB := Lib.hid hb; have hlt1 : w.heap.size + 1 < w1.heap.size := blk_lt hb; clear hb hx))
    go_region
    all_goals go_wp2
    all_goals refine bodyPost_ret (v := .tuple #[.slice none 0 0, .agg #[.int .i64 f1, .int .i64 f2]]) (lf_res Try.results16 _ _ (w.heap.size + 1) (_, _) _ rfl rfl ?_) rfl ⟨_, [], rfl, nil_owns _ _ _, fun j g hg => by simp at hg, ?_⟩
    all_goals first | exact ((HB.out.set _ _).alloc _).drew | exact ((HX.out.set2at (by omega) _ _).alloc _).drew
end Go.Proofs.Ytbhcaniopdgjkaa
