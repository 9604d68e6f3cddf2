import Derived.Test.YtbhcaniopdgjkaaMg10
namespace Go.Proofs.Ytbhcaniopdgjkaa
open Go Go.Proofs Go.RowKit
open Plain (SiteD)
set_option maxHeartbeats 1600000
set_option maxRecDepth 100000
theorem name_eq {n m : ByteArray} {a b : List UInt8} (h1 : n.data.toList = a) (h2 : m.data.toList = b) : (n.toList == m.toList) = (a == b) := by
  rw [ByteArray.toList_eq, ByteArray.toList_eq, h1, h2]
theorem site57_c (nm nm2 : ByteArray) (Z : Option Addr) (n c : Nat) (x y : Int) (B : Nat) (w : World) (hb : w.cell? ⟨B, 0, none⟩ = some (.string nm2)) :
    Calls Try.prog 57 #[.agg #[.string nm, .slice Z n c, .int .i64 x, .int .i64 y], .pointer (some ⟨B, 0, none⟩)] w (BRet w (nm.toList == nm2.toList)) := by
  have HX := Lib.hid ((Ext.refl w).alloc (.cells #[.string nm, .slice Z n c, .int .i64 x, .int .i64 y] 52))
  have hb2 := HX.out.cell hb
  go_enter Try.func57, Try.ntmps57
  go_wp2
  go_ret
  exact ⟨rfl, HX.out⟩
def IdxExt (b : Bool) (w : World) (e : Ending) (w' : World) : Prop := ∃ i : Int, e = .returned (.int .i64 i) ∧ (decide (0 ≤ i)) = b ∧ Ext w w'
theorem anyS_next {p : SiteD → Bool} {l : List SiteD} {x : SiteD} {k : Nat} (h : (l.take k).any p = false) (hx : l[k]? = some x) (hn : p x = false) : (l.take (k + 1)).any p = false := by
  obtain ⟨h1, rfl⟩ := List.getElem?_eq_some_iff.1 hx
  rw [List.take_succ_eq_append_getElem h1, List.any_append, h]
  simp [hn]
theorem anyS_full {p : SiteD → Bool} {l : List SiteD} {k : Nat} (h : (l.take k).any p = false) (hk : l.length ≤ k) : l.any p = false := by
  rw [List.take_of_length_le hk] at h; exact h
theorem anyS_here {p : SiteD → Bool} {l : List SiteD} {x : SiteD} {k : Nat} (hx : l[k]? = some x) (hn : p x = true) : l.any p = true := List.any_eq_true.2 ⟨x, List.mem_of_getElem? hx, hn⟩
def noneS (p : SiteD → Bool) (l : List SiteD) (k : Nat) : Prop := (l.take k).any p = false
theorem IndexFuncS_c (A : Option Addr) (L : List SiteD) (c B : Nat) (nm2 : ByteArray) (w : World) (hl : L.length ≤ 100000) (h1 : Sites w A L) (hb : w.cell? ⟨B, 0, none⟩ = some (.string nm2)) :
    Calls Try.prog 88 #[.slice A L.length c, .func (.func 57) #[] #[.pointer (some ⟨B, 0, none⟩)]] w (IdxExt (L.any fun t => t.name == nm2.data.toList) w) := by
  obtain ⟨p, hp⟩ : ∃ p : SiteD → Bool, p = fun t => t.name == nm2.data.toList := ⟨_, rfl⟩
  rw [← hp]
  have HP := Lib.hid hp
  obtain ⟨q, hq⟩ : ∃ q, q = L.length := ⟨_, rfl⟩
  rw [← hq] at hl ⊢
  have HQ := Lib.hid hq
  have H1 := Lib.hid h1
  obtain ⟨r, hr⟩ : ∃ r, L.any p = r := ⟨_, rfl⟩
  rw [hr]
  have HRR := Lib.hid hr
  have HB := Lib.hid hb
  clear hq hr h1 hp hb
  go_enter Try.func88, Try.ntmps88
  go_wp2
  go_loopw [8] (fun i wr => ∃ k : Nat, k ≤ q ∧ i = .int .i64 k ∧ noneS p L k ∧ Ext w wr) (fun i _ => q - (intOf i).toNat)
  case atStart => exact ⟨0, Nat.zero_le _, rfl, by simp [noneS], Ext.refl _⟩
  case round =>
    obtain ⟨k, hk, rfl, hr, hx⟩ := hrel
    have HR := Lib.hid hr
    have HX := Lib.hid hx
    clear hr hx
    by_cases hlt : k < q
    · have hkl : k < L.length := by rw [← HQ.out]; exact hlt
      obtain ⟨s, hs⟩ : ∃ s, L[k]? = some s := ⟨_, List.getElem?_eq_getElem hkl⟩
      obtain ⟨b, o, rfl, hsite⟩ := H1.out k s hs
      have HS := Lib.hid hs
      have hsite := hsite.ext HX.out
      obtain ⟨nm, n1, n2, n3⟩ := hsite.name
      obtain ⟨Z, zc, z1, _, _, _, _⟩ := hsite.zones
      have z2 := hsite.cost
      have z3 := hsite.wear
      have HC := Lib.hid (site57_c nm nm2 Z s.zones.length zc s.cost s.wear B wr (HX.out.cell HB.out))
      have HE : Hid ((nm.toList == nm2.toList) = p s) := by
        show _ = _
        rw [HP.out]; exact name_eq n2 rfl
      rw [HE.out] at HC
      clear hs hsite hkl n2 n3
      cases hpx : p s with
      | true =>
        have HY := Lib.hid ((anyS_here HS.out hpx).symm.trans HRR.out)
        rw [hpx] at HC; clear hpx
        go_wp2_with (go_at_call 57; refine HC.out.mono ?_; rintro e w' ⟨rfl, hx2⟩; have HX2 := Lib.hid (HX.out.trans hx2); clear hx2)
        go_ret
        exact ⟨k, rfl, by rw [← HY.out]; simp, HX2.out⟩
      | false =>
        have HY := Lib.hid (anyS_next HR.out HS.out hpx)
        rw [hpx] at HC; clear hpx
        go_wp2_with (go_at_call 57; refine HC.out.mono ?_; rintro e w' ⟨rfl, hx2⟩; have HX2 := Lib.hid (HX.out.trans hx2); clear hx2)
        exact ⟨⟨k + 1, by omega, by go_num, HY.out, HX2.out⟩, by simp [intOf]; omega⟩
    · have HY := Lib.hid ((anyS_full HR.out (by rw [← HQ.out]; omega)).symm.trans HRR.out)
      go_wp2
      go_ret
      exact ⟨-1, rfl, by rw [← HY.out]; rfl, HX.out⟩
theorem ContainsFuncS_c (A : Option Addr) (L : List SiteD) (c B : Nat) (nm2 : ByteArray) (w : World) (hl : L.length ≤ 100000) (h1 : Sites w A L) (hb : w.cell? ⟨B, 0, none⟩ = some (.string nm2)) :
    Calls Try.prog 56 #[.slice A L.length c, .func (.func 57) #[] #[.pointer (some ⟨B, 0, none⟩)]] w (BRet w (L.any fun t => t.name == nm2.data.toList)) := by
  have HC := Lib.hid (IndexFuncS_c A L c B nm2 w hl h1 hb)
  obtain ⟨r, hr⟩ : ∃ r, (L.any fun t => t.name == nm2.data.toList) = r := ⟨_, rfl⟩
  rw [hr] at HC ⊢
  clear hr h1 hb
  go_enter Try.func56, Try.ntmps56
  go_wp2_with (go_at_call 88; refine HC.out.mono ?_; rintro e w' ⟨i, rfl, hi, hx⟩; have HX := Lib.hid hx; clear hx)
  go_ret
  exact ⟨rfl, HX.out⟩
end Go.Proofs.Ytbhcaniopdgjkaa
namespace Go.Proofs.Ytbhcaniopdgjkaa
open Go Go.Proofs Go.RowKit
open Plain (SiteD)
/-- A fault is returned. -/
def FRet (w : World) (f : Int × Int) (e : Ending) (w' : World) : Prop := e = .returned (.agg #[.int .i64 f.1, .int .i64 f.2]) ∧ Ext w w'
theorem blk_cell {w : World} {g : Nat} {cs : Array Value} {t : TypeId} (h : w.heap[g]? = some (.cells cs t (0, 0))) (i : Nat) : w.cell? ⟨g, i, none⟩ = cs[i]? := by simp [World.cell?, h]
theorem blk_frozen {w : World} {g : Nat} {cs : Array Value} {t : TypeId} (h : w.heap[g]? = some (.cells cs t (0, 0))) (i : Nat) : w.frozen? ⟨g, i, none⟩ = false := by simp [World.frozen?, h]
theorem ext_blk {w w' : World} (e : Ext w w') {g : Nat} {o : Obj} (h : w.heap[g]? = some o) : w'.heap[g]? = some o := by
  have hlt : g < w.heap.size := by
    rcases Nat.lt_or_ge g w.heap.size with h1 | h1
    · exact h1
    · rw [Array.getElem?_eq_none h1] at h; cases h
  rw [← h]; exact e.block g hlt
theorem new_blk (w : World) (o : Obj) : (w.alloc o).heap[w.heap.size]? = some o := by simp [World.alloc, -World.alloc_eq]
/-- The block that holds a fault. -/
def FBlk (w : World) (g : Nat) (f : Int × Int) : Prop := w.heap[g]? = some (.cells #[.int .i64 f.1, .int .i64 f.2] 25 (0, 0))
theorem FBlk.c0 {w : World} {g : Nat} {f : Int × Int} (h : FBlk w g f) : w.cell? ⟨g, 0, none⟩ = some (.int .i64 f.1) := blk_cell h 0
theorem FBlk.c1 {w : World} {g : Nat} {f : Int × Int} (h : FBlk w g f) : w.cell? ⟨g, 1, none⟩ = some (.int .i64 f.2) := blk_cell h 1
theorem FBlk.z {w : World} {g : Nat} {f : Int × Int} (h : FBlk w g f) (i : Nat) : w.frozen? ⟨g, i, none⟩ = false := blk_frozen h i
theorem FBlk.ext {w w' : World} {g : Nat} {f : Int × Int} (h : FBlk w g f) (e : Ext w w') : FBlk w' g f := ext_blk e h
theorem FBlk.new (w : World) (a b : Int) : FBlk (w.alloc (.cells #[.int .i64 a, .int .i64 b] 25)) w.heap.size (a, b) := new_blk _ _
theorem new_lt {w w1 : World} {o : Obj} (e : Ext (w.alloc o) w1) : w.heap.size < w1.heap.size := by
  have := e.size
  simp at this
  omega
theorem fault_res {fn : Func} {p : Tmp} (h : fn.results = #[.cell p 25]) (tmps : Array Value) (w : World) (g : Nat) (f : Int × Int) (hp : tmps.getD p undef = .pointer (some ⟨g, 0, none⟩)) (hb : FBlk w g f) :
    (results fn tmps).run Try.prog w = .ok (.agg #[.int .i64 f.1, .int .i64 f.2]) w := by
  have hp' : tmps[p]?.getD undef = .pointer (some ⟨g, 0, none⟩) := by simpa using hp
  have h0 := hb.c0
  have h1 := hb.c1
  simp [results, h, hp', go_sem, h0, h1]
theorem FBlk.set {w : World} {g : Nat} {f : Int × Int} (h : FBlk w g f) (a b : Int) : FBlk ((w.setCell ⟨g, 0, none⟩ (.int .i64 a)).setCell ⟨g, 1, none⟩ (.int .i64 b)) g (a, b) := by
  have h' : w.heap[g]? = some (.cells #[.int .i64 f.1, .int .i64 f.2] 25 (0, 0)) := h
  unfold FBlk
  simp only [World.setCell, Array.getElem?_modify, h', if_true]
  rfl
theorem FBlk.alloc {w : World} {g : Nat} {f : Int × Int} (h : FBlk w g f) (o : Obj) : FBlk (w.alloc o) g f := h.ext ((Ext.refl w).alloc o)
theorem Ext.set2 {w w1 : World} (e : Ext w w1) (a b : Value) : Ext w ((w1.setCell ⟨w.heap.size, 0, none⟩ a).setCell ⟨w.heap.size, 1, none⟩ b) := (e.setCell (p := ⟨w.heap.size, 0, none⟩) (Nat.le_refl _) _).setCell (p := ⟨w.heap.size, 1, none⟩) (Nat.le_refl _) _
theorem ext_new {w w1 : World} {o : Obj} (e : Ext (w.alloc o) w1) : Ext w w1 := ((Ext.refl w).alloc o).trans e
end Go.Proofs.Ytbhcaniopdgjkaa
