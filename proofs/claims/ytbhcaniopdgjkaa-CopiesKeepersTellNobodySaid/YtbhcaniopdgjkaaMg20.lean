import Derived.Test.YtbhcaniopdgjkaaMg19
namespace Go.Proofs.Ytbhcaniopdgjkaa
open Go Go.Proofs Go.RowKit
open Plain (SiteD)
set_option maxHeartbeats 1000000
set_option maxRecDepth 100000
/-- Two sites have a common zone. -/
def adjF (L : List SiteD) (i k : Nat) : Bool := meetsB (Plain.zonesAt L (i : Int)) (Plain.zonesAt L (k : Int))
def seenRow (n : Nat) (acc : List Nat) : Array Value := ((List.range n).map fun k => Value.bool (acc.contains k)).toArray
theorem seenRow_size (n : Nat) (acc : List Nat) : (seenRow n acc).size = n := by simp [seenRow]
theorem seenRow_at {n k : Nat} (acc : List Nat) (h : k < n) : (seenRow n acc)[k]? = some (.bool (acc.contains k)) := by simp [seenRow, h]
theorem seenRow_set {n i : Nat} (acc : List Nat) (h : i < n) : (seenRow n acc).setIfInBounds i (.bool true) = seenRow n (acc ++ [i]) := by
  apply Array.ext_getElem?
  intro k
  rw [Array.getElem?_setIfInBounds, seenRow_size]
  by_cases hk : k < n
  · rw [seenRow_at _ hk, seenRow_at _ hk]
    by_cases hik : i = k
    · subst hik; simp [hk]
    · simp [hik]
      by_cases hm : k ∈ acc
      · simp [hm]
      · simp [hm]; omega
  · rw [if_neg (by omega)]
    rw [Array.getElem?_eq_none (by rw [seenRow_size]; omega), Array.getElem?_eq_none (by rw [seenRow_size]; omega)]
/-- The worlds of one search. -/
structure VisP (Ws wr : World) (gs bg n : Nat) (acc : List Nat) (grp : List Int) : Prop where
  os : wr.os = Ws.os
  tape : wr.tape = Ws.tape
  output : wr.output = Ws.output
  size : Ws.heap.size ≤ wr.heap.size
  keep : ∀ b, b < Ws.heap.size → b ≠ gs → b ≠ bg → wr.heap[b]? = Ws.heap[b]?
  seen : wr.heap[gs]? = some (.cells (seenRow n acc) 4 (0, 0))
  grp : ∃ v, wr.heap[bg]? = some (.cells #[v] 23 (0, 0)) ∧ wr.ownsRow Ws.heap.size 3 1 v grp.length (grp.map (Value.int .i64))
section
variable {Ws wr w1 : World} {gs bg n : Nat} {acc : List Nat} {grp : List Int}
theorem VisP.ext (h : VisP Ws wr gs bg n acc grp) (e : Ext wr w1) : VisP Ws w1 gs bg n acc grp := by
  obtain ⟨v, h1, h2⟩ := h.grp
  refine ⟨e.os.trans h.os, e.tape.trans h.tape, e.output.trans h.output, Nat.le_trans h.size e.size, fun b hb a1 a2 => ?_, ext_blk e h.seen, ⟨v, ext_blk e h1, own_ext h2 e⟩⟩
  rw [← h.keep b hb a1 a2]
  exact e.block b (Nat.lt_of_lt_of_le hb h.size)
theorem VisP.cell (h : VisP Ws wr gs bg n acc grp) {b i : Nat} {v : Value} (hc : Ws.cell? ⟨b, i, none⟩ = some v) (h1 : b ≠ gs) (h2 : b ≠ bg) : wr.cell? ⟨b, i, none⟩ = some v := by
  have hb := World.block_lt_of_cell? Ws _ hc
  rw [← hc]
  unfold World.cell?
  rw [h.keep b hb h1 h2]
theorem VisP.x {w0 : World} (h : VisP Ws wr gs bg n acc grp) (e : Ext w0 Ws) (h1 : w0.heap.size ≤ gs) (h2 : w0.heap.size ≤ bg) : Ext w0 wr := by
  refine ⟨h.os.trans e.os, h.tape.trans e.tape, h.output.trans e.output, Nat.le_trans e.size h.size, fun b hb => ?_⟩
  rw [h.keep b (Nat.lt_of_lt_of_le hb e.size) (by omega) (by omega)]
  exact e.block b hb
theorem VisP.mark (h : VisP Ws wr gs bg n acc grp) (hs : gs < Ws.heap.size) (hg : gs ≠ bg) {i : Nat} (hi : i < n) : VisP Ws (wr.setCell ⟨gs, i, none⟩ (.bool true)) gs bg n (acc ++ [i]) grp := by
  obtain ⟨v, h1, h2⟩ := h.grp
  refine ⟨h.os, h.tape, h.output, by rw [show (wr.setCell ⟨gs, i, none⟩ (.bool true)).heap.size = wr.heap.size by simp [World.setCell]]; exact h.size, fun b hb a1 a2 => by rw [Below.heap_setCell _ _ _ _ a1]; exact h.keep b hb a1 a2, ?_, ⟨v, by rw [Below.heap_setCell _ _ _ _ (Ne.symm hg)]; exact h1, own_set h2 hs _ _⟩⟩
  have := h.seen
  rw [← seenRow_set acc hi]
  simp only [World.setCell, Array.getElem?_modify, this, if_true]; rfl
/-- A site comes into the group. -/
theorem VisP.add (h : VisP Ws wr gs bg n acc grp) (hs : gs < Ws.heap.size) (hb : bg < Ws.heap.size) (hg : gs ≠ bg) {v v3 : Value} {w3 : World} {o : Obj} {i : Int} (hv : wr.heap[bg]? = some (.cells #[v] 23 (0, 0))) (hv2 : wr.ownsRow Ws.heap.size 3 1 v grp.length (grp.map (Value.int .i64)))
    (ho : w3.ownsRow Ws.heap.size 3 1 v3 (grp.length + 1) (grp.map (Value.int .i64) ++ [.int .i64 i])) (hgr : (wr.alloc o).grownBy w3 v.ownBlock) : VisP Ws (w3.setCell ⟨bg, 0, none⟩ v3) gs bg n acc (grp ++ [i]) := by
  have hx1 : Ext wr (wr.alloc o) := (Ext.refl wr).alloc o
  have hbel : Below Ws.heap.size wr w3 := Below.grown (Below.mono hx1 h.size) hgr (Nat.le_trans h.size hx1.size) fun k hk => (own_lt (own_ext hv2 hx1) hk).1
  have hsz : (w3.setCell ⟨bg, 0, none⟩ v3).heap.size = w3.heap.size := by simp [World.setCell]
  refine ⟨hbel.os.trans h.os, hbel.tape.trans h.tape, hbel.output.trans h.output, by rw [hsz]; exact Nat.le_trans h.size hbel.size, fun b hb' a1 a2 => ?_, ?_, ⟨v3, ?_, ?_⟩⟩
  · rw [Below.heap_setCell _ _ _ _ a2, hbel.block b hb']; exact h.keep b hb' a1 a2
  · rw [Below.heap_setCell _ _ _ _ hg, hbel.block gs hs]; exact h.seen
  · have hc : w3.heap[bg]? = some (.cells #[v] 23 (0, 0)) := by rw [hbel.block bg hb]; exact hv
    simp only [World.setCell, Array.getElem?_modify, hc, if_true]; rfl
  · rw [List.length_append, List.map_append]
    exact own_set ho hb _ _
end
end Go.Proofs.Ytbhcaniopdgjkaa
namespace Go.Proofs.Ytbhcaniopdgjkaa
open Go Go.Proofs Go.RowKit
open Plain (SiteD)
set_option maxHeartbeats 1000000
set_option maxRecDepth 100000
/-- What stays as it is in one search. -/
structure StatP (w0 Ws : World) (gs bg bs bl bv : Nat) (A : Option Addr) (L : List SiteD) (c1 : Nat) : Prop where
  hx0 : Ext w0 Ws
  g1 : w0.heap.size ≤ gs
  g2 : w0.heap.size ≤ bg
  n1 : gs ≠ bg
  l1 : gs < Ws.heap.size
  l2 : bg < Ws.heap.size
  k1 : Ws.cell? ⟨bs, 0, none⟩ = some (.slice (some ⟨gs, 0, none⟩) L.length L.length)
  k2 : Ws.cell? ⟨bl, 0, none⟩ = some (.slice A L.length c1)
  k3 : Ws.cell? ⟨bv, 0, none⟩ = some (.func (.func 50) #[] #[.pointer (some ⟨bs, 0, none⟩), .pointer (some ⟨bg, 0, none⟩), .pointer (some ⟨bl, 0, none⟩), .pointer (some ⟨bv, 0, none⟩)])
  d1 : bs ≠ gs ∧ bs ≠ bg
  d2 : bl ≠ gs ∧ bl ≠ bg
  d3 : bv ≠ gs ∧ bv ≠ bg
  h1 : Sites w0 A L
  hL : L.length ≤ 10
def foldP (L : List SiteD) (fuel i k : Nat) (acc : List Nat) : List Nat := (List.range k).foldl (fun a k => if !(a.contains k) && adjF L i k then Plain.visit (adjF L) L.length fuel k a else a) acc
theorem foldP_succ (L : List SiteD) (fuel i k : Nat) (acc : List Nat) : foldP L fuel i (k + 1) acc = if !((foldP L fuel i k acc).contains k) && adjF L i k then Plain.visit (adjF L) L.length fuel k (foldP L fuel i k acc) else foldP L fuel i k acc := by
  unfold foldP
  rw [List.range_succ, List.foldl_append]
  rfl
theorem visit_foldP (L : List SiteD) (fuel i : Nat) (acc : List Nat) : Plain.visit (adjF L) L.length (fuel + 1) i acc = foldP L fuel i L.length (acc ++ [i]) := by
  rw [Plain.visit]; rfl
theorem nodup_len {acc : List Nat} {n : Nat} (h : acc.Nodup) (hlt : ∀ x ∈ acc, x < n) : acc.length ≤ n := by
  induction n generalizing acc with
  | zero =>
    cases acc with
    | nil => exact Nat.le_refl _
    | cons x r => exact absurd (hlt x (by simp)) (by omega)
  | succ n ih =>
    have h1 := ih (h.erase n) (fun x hx => by
      have h2 := hlt x (List.mem_of_mem_erase hx)
      have h3 : x ≠ n := fun e => by subst e; exact (h.not_mem_erase) hx
      omega)
    have h2 : acc.length ≤ (acc.erase n).length + 1 := by
      rw [List.length_erase]; split <;> omega
    omega
/-- What is known of the search so far. -/
structure SoFar (L : List SiteD) (i : Nat) (acc g : List Nat) : Prop where
  lt : ∀ x ∈ acc ++ g, x < L.length
  nodup : (acc ++ g).Nodup
  has : i ∈ g
theorem sofar0 {L : List SiteD} {i : Nat} {acc : List Nat} (hi : i < L.length) (hni : i ∉ acc) (hlt : ∀ x ∈ acc, x < L.length) (hnd : acc.Nodup) : SoFar L i acc [i] := by
  refine ⟨fun x hx => ?_, ?_, by simp⟩
  · rcases List.mem_append.1 hx with h | h
    · exact hlt x h
    · rw [List.mem_singleton.1 h]; exact hi
  · rw [List.nodup_append]
    refine ⟨hnd, by simp, ?_⟩
    intro a ha b hb
    rw [List.mem_singleton.1 hb]
    exact fun e => hni (e ▸ ha)
theorem SoFar.unseen {L : List SiteD} {i fuel : Nat} {acc g : List Nat} (h : SoFar L i acc g) (hi : i < L.length) (hni : i ∉ acc) (hf : Plain.unseen L.length acc ≤ fuel + 1) : Plain.unseen L.length (acc ++ g) ≤ fuel := by
  have h1 := Plain.unseen_lt L.length hi hni
  have h2 : Plain.unseen L.length (acc ++ g) ≤ Plain.unseen L.length (acc ++ [i]) := Plain.unseen_mono L.length fun x hx => by
    rcases List.mem_append.1 hx with h3 | h3
    · exact List.mem_append_left _ h3
    · rw [List.mem_singleton.1 h3]; exact List.mem_append_right _ h.has
  omega
theorem SoFar.next {L : List SiteD} {i k fuel : Nat} {acc g g2 : List Nat} (h : SoFar L i acc g) (hu : Plain.unseen L.length (acc ++ g) ≤ fuel) (hk : k < L.length) (hnk : k ∉ acc ++ g) (he : Plain.visit (adjF L) L.length fuel k (acc ++ g) = acc ++ g ++ g2) : SoFar L i acc (g ++ g2) := by
  have hp := Plain.visit_post (adjF L) L.length fuel k (acc ++ g) hu hk hnk h.lt h.nodup
  rw [he] at hp
  rw [List.append_assoc] at hp
  exact ⟨hp.lt, hp.nodup, List.mem_append_left _ h.has⟩
theorem grown_blk {Ws w5 w3 : World} {bg : Nat} {v v3 : Value} {n m : Nat} {xs ys : List Value} {o o2 : Obj} (h1 : w5.heap[bg]? = some o2) (h2 : w5.ownsRow Ws.heap.size 3 1 v n xs) (_ho : w3.ownsRow Ws.heap.size 3 1 v3 m ys) (hg : (w5.alloc o).grownBy w3 v.ownBlock) (hb : bg < Ws.heap.size) (hs : Ws.heap.size ≤ w5.heap.size) : w3.heap[bg]? = some o2 := by
  have hx1 : Ext w5 (w5.alloc o) := (Ext.refl w5).alloc o
  have hbel : Below Ws.heap.size w5 w3 := Below.grown (Below.mono hx1 hs) hg (Nat.le_trans hs hx1.size) fun k hk => (own_lt (own_ext h2 hx1) hk).1
  rw [hbel.block bg hb]; exact h1
theorem visitP_c (w0 Ws : World) (gs bg bs bl bv : Nat) (A : Option Addr) (L : List SiteD) (c1 : Nat) (st : StatP w0 Ws gs bg bs bl bv A L c1) :
    ∀ (fuel i : Nat) (acc : List Nat) (grp : List Int) (wr : World), Plain.unseen L.length acc ≤ fuel → i < L.length → i ∉ acc → VisP Ws wr gs bg L.length acc grp → grp.length ≤ acc.length → (∀ x ∈ acc, x < L.length) → acc.Nodup →
    Calls Try.prog 50 #[.int .i64 (i : Int), .pointer (some ⟨bs, 0, none⟩), .pointer (some ⟨bg, 0, none⟩), .pointer (some ⟨bl, 0, none⟩), .pointer (some ⟨bv, 0, none⟩)] wr
      fun e w' => e = .returned (.tuple #[]) ∧ ∃ g : List Nat, Plain.visit (adjF L) L.length fuel i acc = acc ++ g ∧ VisP Ws w' gs bg L.length (acc ++ g) (grp ++ g.map Int.ofNat) := by
  intro fuel
  induction fuel with
  | zero =>
    intro i acc grp wr hf hi hni
    exfalso
    have := Plain.unseen_lt L.length hi hni
    omega
  | succ fuel ih =>
    intro i acc grp wr hf hi hni hv hgl hlt hnd
    have HIH := Lib.hid ih
    have HST := Lib.hid st
    have hL := st.hL
    obtain ⟨q, hq⟩ : ∃ q, q = L.length := ⟨_, rfl⟩
    have a1 := hv.cell st.k1 st.d1.1 st.d1.2
    have a2 := hv.cell st.k2 st.d2.1 st.d2.2
    have a3 := hv.seen
    have a4 : wr.cell? ⟨gs, i, none⟩ = some (.bool (acc.contains i)) := by rw [blk_cell a3]; exact seenRow_at acc hi
    have a5 := blk_frozen a3 i
    obtain ⟨v, hv1, hv2⟩ := hv.grp
    have HV := Lib.hid hv
    have HM := Lib.hid (hv.mark st.l1 st.n1 hi)
    have hlen : acc.length ≤ 10 := Nat.le_trans (nodup_len hnd hlt) hL
    obtain ⟨i0, hi', hz0, hz1, hz2⟩ := info_parts info3
    have HI := Lib.hid hi'
    have HZ0 := Lib.hid hz0
    have HZ1 := Lib.hid hz1
    have HZ2 := Lib.hid hz2
    clear ih st hv hi' hz0 hz1 hz2 a3 hv1 hv2
    rw [← hq] at a1 a2 hi
    have hi0 : (0 : Int) ≤ (i : Int) := by omega
    have hi1 : (i : Int) < (q : Int) := by omega
    go_enter Try.func50, Try.ntmps50
    go_upto_region 1 with (fail)
    generalize (wr.setCell ⟨gs, i, none⟩ (.bool true)) = w5 at HM ⊢
    clear a1 a2 a4 a5 HV
    obtain ⟨v, hv1, hv2⟩ := HM.out.grp
    obtain ⟨VA, vc, rfl, _, _, _, _⟩ := own_sl hv2
    have b1 : w5.cell? ⟨bg, 0, none⟩ = some (.slice VA grp.length vc) := blk_cell hv1 0
    have HV1 := Lib.hid hv1
    have HV2 := Lib.hid hv2
    have hws := HM.out.size
    have hgg : grp.length ≤ 10 := by omega
    clear hv1 hv2
    go_upto_region 2 with (at_builtin; refine wpList_append_sl rfl _ _ 23 rfl Ws.heap.size 3 i0 (.int .i64 0) 1 8 Try.underlying23 HI.out HZ0.out HZ1.out HZ2.out rfl (by decide) _ grp.length (grp.map (Value.int .i64)) rfl (HV2.out.alloc _) (some ⟨w5.heap.size, 0, none⟩) 1 1 [.int .i64 (i : Int)] rfl (slc_new w5 [.int .i64 (i : Int)] 3) rfl (by simp [Value.oneCell']) (by unfold maxLen; omega) (by omega) (by simp; omega) ?_; intro v3 w3 ho3 hg3 _h3; have HN3 := Lib.hid (HM.out.add HST.out.l1 HST.out.l2 HST.out.n1 HV1.out HV2.out ho3 hg3); have hc3 := grown_blk HV1.out HV2.out ho3 hg3 HST.out.l2 hws; have c0 := blk_cell hc3 0; have c2 := blk_frozen hc3 0; obtain ⟨A3, c3', rfl, _, _, _, _⟩ := own_sl ho3; clear ho3 hg3 _h3 hc3)
    generalize (w3.setCell ⟨bg, 0, none⟩ (.slice A3 (grp.length + 1) c3')) = w6 at HN3 ⊢
    have HG0 : Hid (VisP Ws w6 gs bg L.length (acc ++ [i]) (grp ++ [(i : Int)])) := HN3.out
    have d2 := HN3.out.cell HST.out.k2 HST.out.d2.1 HST.out.d2.2
    clear c0 c2 b1 HV1 HV2 HM hws HN3
    have HGL := Lib.hid hgl
    have HLT := Lib.hid hlt
    have HND := Lib.hid hnd
    have HNI := Lib.hid hni
    have HFU := Lib.hid hf
    clear hgl hlt hnd hni hf
    rw [← hq] at d2
    have HQ := Lib.hid hq
    have hq10 : q ≤ 10 := by rw [hq]; exact hL
    obtain ⟨si, hsi⟩ : ∃ s, L[i]? = some s := ⟨_, List.getElem?_eq_getElem (by rw [← hq]; exact hi)⟩
    obtain ⟨b, o, rfl, hsite⟩ := HST.out.h1 i si hsi
    obtain ⟨Zi, zci, ki1, _, ki2, _, ki3⟩ := hsite.zones
    have HSI := Lib.hid hsi
    have HKI1 := Lib.hid ki1
    have HKI3 := Lib.hid ki3
    have hki2 : si.zones.length ≤ maxLen := by omega
    clear hq hsi hsite ki1 ki3 ki2
    go_wp2
    rw [← HQ.out]
    go_loopw [16] (fun v wx => ∃ k : Nat, k ≤ q ∧ v = .int .i64 k ∧ ∃ g, foldP L fuel i k (acc ++ [i]) = acc ++ g ∧ VisP Ws wx gs bg L.length (acc ++ g) (grp ++ g.map Int.ofNat) ∧ SoFar L i acc g) (fun v _ => q - (intOf v).toNat)
    case atStart => exact ⟨0, Nat.zero_le _, rfl, [i], rfl, HG0.out, sofar0 (by rw [← HQ.out]; exact hi) HNI.out HLT.out HND.out⟩
    case round =>
      clear d2 HG0
      obtain ⟨k, hk, rfl, g, hfo, hv, hso⟩ := hrel
      have HFO := Lib.hid hfo
      have HV := Lib.hid hv
      have HSO := Lib.hid hso
      have e1 := hv.cell HST.out.k1 HST.out.d1.1 HST.out.d1.2
      have e2 := hv.cell HST.out.k2 HST.out.d2.1 HST.out.d2.2
      have e3 := hv.cell HST.out.k3 HST.out.d3.1 HST.out.d3.2
      rw [← HQ.out] at e1 e2
      clear hfo hv hso
      by_cases hkq : k < q
      · have hkl : k < L.length := by rw [← HQ.out]; exact hkq
        have e4 : wr.cell? ⟨gs, k, none⟩ = some (.bool ((acc ++ g).contains k)) := by rw [blk_cell HV.out.seen]; exact seenRow_at _ hkl
        have hk0 : (0 : Int) ≤ (k : Int) := by omega
        have hk1 : (k : Int) < (q : Int) := by omega
        have HSU := Lib.hid (foldP_succ L fuel i k (acc ++ [i]))
        rw [HFO.out] at HSU
        cases hsn : (acc ++ g).contains k with
        | true =>
          rw [hsn] at e4 HSU
          have HE : Hid (foldP L fuel i (k + 1) (acc ++ [i]) = acc ++ g) := by show _ = _; rw [HSU.out]; simp
          clear hsn
          go_wp2
          go_quiet (fail)
          go_wp2
          exact ⟨⟨k + 1, by omega, by go_num, g, HE.out, HV.out.ext ((Ext.refl _).drewN _), HSO.out⟩, by simp [intOf]; omega⟩
        | false =>
          have hnk : k ∉ acc ++ g := by
            intro hm; rw [List.contains_iff_mem.2 hm] at hsn; cases hsn
          have HNK := Lib.hid hnk
          rw [hsn] at e4 HSU
          clear hsn hnk
          obtain ⟨sk, hsk⟩ : ∃ s, L[k]? = some s := ⟨_, List.getElem?_eq_getElem hkl⟩
          obtain ⟨_, _, hbo, hsite⟩ := HST.out.h1 k sk hsk
          cases hbo
          obtain ⟨Zk, zck, kk1, _, kk2, _, kk3⟩ := hsite.zones
          have hx0 := HV.out.x HST.out.hx0 HST.out.g1 HST.out.g2
          have f1 := hx0.cell HKI1.out
          have f2 := hx0.cell kk1
          have HME := Lib.hid (fun w' (x : Ext wr w') => meet_c Zi Zk si.zones sk.zones zci zck w' hki2 (by omega) ((HKI3.out.ext hx0).ext x) ((kk3.ext hx0).ext x))
          have HAD : Hid (meetsB si.zones sk.zones = adjF L i k) := by
            show _ = _
            unfold adjF Plain.zonesAt
            rw [Int.toNat_natCast, Int.toNat_natCast, HSI.out, hsk]; rfl
          rw [HAD.out] at HME
          clear hsk hsite kk1 kk2 kk3 hx0
          cases had : adjF L i k with
          | true =>
            rw [had] at HME HSU
            have hun := HSO.out.unseen (by rw [← HQ.out]; exact hi) HNI.out HFU.out
            have HCALL := Lib.hid (fun w' (x : Ext wr w') => HIH.out k (acc ++ g) (grp ++ g.map Int.ofNat) w' hun hkl HNK.out (HV.out.ext x) (by have := HGL.out; simp; omega) HSO.out.lt HSO.out.nodup)
            have HNX := Lib.hid (fun g2 he => HSO.out.next (g2 := g2) hun hkl HNK.out he)
            have HE : Hid (foldP L fuel i (k + 1) (acc ++ [i]) = Plain.visit (adjF L) L.length fuel k (acc ++ g)) := by show _ = _; rw [HSU.out]; simp
            clear had hun
            go_wp2
            go_region_held3 (fun w' => w'.cell? ⟨bs, 0, none⟩ = some (.slice (some ⟨gs, 0, none⟩) q q) ∧ w'.cell? ⟨gs, k, none⟩ = some (.bool false) ∧ w'.cell? ⟨bl, 0, none⟩ = some (.slice (some ⟨b, o, none⟩) q c1) ∧ w'.cell? ⟨b, o + i * 4 + 1, none⟩ = some (.slice Zi si.zones.length zci) ∧ w'.cell? ⟨b, o + k * 4 + 1, none⟩ = some (.slice Zk sk.zones.length zck)) (go_keep) ((go_at_call 51; refine (HME.out _ (by first | exact Ext.refl _ | exact (Ext.refl _).drew | exact (Ext.refl _).drewN _)).mono ?_; rintro e w7 ⟨rfl, hx7⟩; have HX7 := Lib.hid ((Ext.refl wr).drew.trans hx7); have y1 := hx7.cell e1; have y2 := hx7.cell e2; have y3 := hx7.cell e4; have y4 := hx7.cell f1; have y5 := hx7.cell f2; have y6 := hx7.cell e3; clear hx7))
            all_goals go_wp2_with (go_at_call 50; refine (HCALL.out _ HX7.out).mono ?_; rintro e w8 ⟨rfl, g2, hg2, hv8⟩; have HG2 := Lib.hid hg2; have HV8 := Lib.hid hv8; clear hg2 hv8)
            all_goals refine ⟨⟨k + 1, by omega, by go_num, g ++ g2, ?_, ?_, HNX.out g2 HG2.out⟩, by simp [intOf]; omega⟩
            all_goals first | (rw [HE.out, HG2.out, List.append_assoc]) | (have := HV8.out; rw [List.append_assoc, List.append_assoc] at this; rw [List.map_append]; exact this)
          | false =>
            rw [had] at HME HSU
            have HE : Hid (foldP L fuel i (k + 1) (acc ++ [i]) = acc ++ g) := by show _ = _; rw [HSU.out]; simp
            clear had
            go_wp2
            go_region_held3 (fun w' => w'.cell? ⟨bs, 0, none⟩ = some (.slice (some ⟨gs, 0, none⟩) q q) ∧ w'.cell? ⟨gs, k, none⟩ = some (.bool false) ∧ w'.cell? ⟨bl, 0, none⟩ = some (.slice (some ⟨b, o, none⟩) q c1) ∧ w'.cell? ⟨b, o + i * 4 + 1, none⟩ = some (.slice Zi si.zones.length zci) ∧ w'.cell? ⟨b, o + k * 4 + 1, none⟩ = some (.slice Zk sk.zones.length zck)) (go_keep) ((go_at_call 51; refine (HME.out _ (by first | exact Ext.refl _ | exact (Ext.refl _).drew | exact (Ext.refl _).drewN _)).mono ?_; rintro e w7 ⟨rfl, hx7⟩; have HX7 := Lib.hid ((Ext.refl wr).drew.trans hx7); have y1 := hx7.cell e1; have y2 := hx7.cell e2; have y3 := hx7.cell e4; have y4 := hx7.cell f1; have y5 := hx7.cell f2; clear hx7))
            all_goals go_wp2
            all_goals exact ⟨⟨k + 1, by omega, by go_num, g, HE.out, HV.out.ext HX7.out, HSO.out⟩, by simp [intOf]; omega⟩
      · have hkn : k = q := by omega
        subst hkn
        have HE : Hid (Plain.visit (adjF L) L.length (fuel + 1) i acc = acc ++ g) := by
          show _ = _
          rw [visit_foldP, ← HQ.out]; exact HFO.out
        go_wp2
        exact bodyPost_end (v := .tuple #[]) (by simp [results, Try.results50]) rfl ⟨rfl, g, HE.out, HV.out⟩
end Go.Proofs.Ytbhcaniopdgjkaa
