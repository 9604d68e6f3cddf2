import Derived.Test.YtbhcaniopdgjkaaPlc
import Derived.Test.YtbhcaniopdgjkaaLife
namespace Go.Proofs.Ytbhcaniopdgjkaa
open Go Go.Proofs Go.RowKit
open Plain (SiteD)
set_option maxHeartbeats 1000000
set_option maxRecDepth 100000
theorem meets_comm (a b : List Int) : meetsB a b = meetsB b a := by
  rw [Bool.eq_iff_iff]
  unfold meetsB hasB
  simp only [List.any_eq_true, List.contains_iff_mem]
  constructor
  · rintro ⟨x, h1, h2⟩; exact ⟨x, h2, h1⟩
  · rintro ⟨x, h1, h2⟩; exact ⟨x, h2, h1⟩
theorem partsN_C (L : List SiteD) : partsN L = Plain.partsC (adjF L) L.length := Plain.parts_prog (adjF L) L.length (fun _ _ => meets_comm _ _) sortN sortN_law
theorem pl_sites : Plain.sitesF plL = (0, 0) := by decide
theorem pl_left : leftFault plL [0, 1, 2] [2] = (0, 0) ∧ Plain.leftF plL [0, 1, 2] [2] = [0, 2] := by decide
theorem pl_worst : worstFault plL [0, 1, 2] 1 = (0, 0) ∧ worstR plL [0, 1, 2] 1 = ([1], 1) := by decide
theorem pl_zones : Plain.zonesF plL = [1, 2, 3] := by decide
theorem pl_parts : intsL (partsN plL) = [[0, 1], [2]] := by rw [partsN_C]; decide
theorem pl_life : lifeFault plL 1 0 9 = (0, 0) ∧ lifeR plL 1 0 9 = 4 := by decide
/-- A list in a variable. -/
def LV (w : World) (s : Value) (l : List Int) : Prop := ∃ R c, s = .slice R l.length c ∧ Sl w .i64 R l
theorem LV.ext {w w' : World} {s : Value} {l : List Int} (h : LV w s l) (e : Ext w w') : LV w' s l := by
  obtain ⟨R, c, h1, h2⟩ := h; exact ⟨R, c, h1, h2.ext e⟩
def FV (w : World) (s : Value) (f : Int × Int) : Prop := ∃ g, s = .pointer (some ⟨g, 0, none⟩) ∧ FBlk w g f
theorem FV.ext {w w' : World} {s : Value} {f : Int × Int} (h : FV w s f) (e : Ext w w') : FV w' s f := by
  obtain ⟨g, h1, h2⟩ := h; exact ⟨g, h1, h2.ext e⟩
theorem own_lv {w : World} {base : Nat} {v : Value} {l : List Int} (h : w.ownsRow base 3 1 v l.length (l.map (Value.int .i64))) : LV w v l := by
  obtain ⟨A, c, h1, _, _, _, h2⟩ := own_sl h
  exact ⟨A, c, h1, h2⟩
/-- Lists of lists in a variable. -/
def PV (w : World) (s : Value) (P : List (List Int)) : Prop := ∃ R c, s = .slice R P.length c ∧ ∀ (j : Nat) (g : List Int), P[j]? = some g → ∃ b o, R = some ⟨b, o, none⟩ ∧ ∃ G d, w.cell? ⟨b, o + j, none⟩ = some (.slice G g.length d) ∧ Sl w .i64 G g ∧ g.length ≤ d ∧ d ≤ maxLen
theorem PV.ext {w w' : World} {s : Value} {P : List (List Int)} (h : PV w s P) (e : Ext w w') : PV w' s P := by
  obtain ⟨R, c, h1, h2⟩ := h
  refine ⟨R, c, h1, fun j g hg => ?_⟩
  obtain ⟨b, o, h3, G, d, h4, h5, h6⟩ := h2 j g hg
  exact ⟨b, o, h3, G, d, e.cell h4, h5.ext e, h6⟩
theorem own_pv {w : World} {base : Nat} {v : Value} {P : List (List Int)} {vs : List Value} (h : w.ownsRow base 23 1 v P.length vs)
    (hr : ∀ (j : Nat) (g : List Int), P[j]? = some g → ∃ (blk c : Nat), vs[j]? = some (.slice (some ⟨blk, 0, none⟩) g.length c) ∧ g.length ≤ c ∧ c ≤ maxLen ∧ Sl w .i64 (some ⟨blk, 0, none⟩) g) : PV w v P := by
  rcases h.2 with ⟨rfl, h0⟩ | ⟨g, cap, cur, rfl, hb, hg, hn, hm, hs, ht⟩
  · have : P = [] := List.eq_nil_of_length_eq_zero h0
    subst this
    exact ⟨none, 0, rfl, fun j g hg => by simp at hg⟩
  · refine ⟨some ⟨g, 0, none⟩, cap, rfl, fun j r hj => ?_⟩
    obtain ⟨blk, c, r1, r2, r3, r4⟩ := hr j r hj
    refine ⟨g, 0, rfl, some ⟨blk, 0, none⟩, c, ?_, r4, r2, r3⟩
    rw [Nat.zero_add, blk_cell hg]
    have hlt : j < P.length := (List.getElem?_eq_some_iff.1 hj).1
    rw [Nat.mul_one] at ht
    have : (cur.toList.take P.length)[j]? = vs[j]? := by rw [ht]
    rw [List.getElem?_take, if_pos hlt, r1] at this
    simpa using this
section
variable (b : Nat) (w : World) (hs : Sites w (some ⟨b, 0, none⟩) plL) (hg : Glob w)
include hs hg
theorem left_pl (R D : Option Addr) (h1 : Sl w .i64 R [0, 1, 2]) (h2 : Sl w .i64 D [2]) : Calls Try.prog 14 #[.slice (some ⟨b, 0, none⟩) 3 3, .slice R 3 3, .slice D 1 1] w (LFRet w [0, 2] (0, 0)) := by
  have := Left_c (some ⟨b, 0, none⟩) R D plL [0, 1, 2] [2] 3 3 1 w (by decide) (by decide) (by decide) hs hg h1 h2
  rw [pl_left.1, pl_left.2, if_pos rfl] at this
  exact this
theorem worst_pl (R : Option Addr) (h1 : Sl w .i64 R [0, 1, 2]) : Calls Try.prog 27 #[.slice (some ⟨b, 0, none⟩) 3 3, .slice R 3 3, .int .i64 1] w (WRet w [1] 1 (0, 0)) := by
  have := Worst_c (some ⟨b, 0, none⟩) R plL [0, 1, 2] 3 3 1 w (by decide) (by decide) hs hg h1
  rw [pl_worst.1, pl_worst.2] at this
  exact this
theorem zones_pl : Calls Try.prog 15 #[.slice (some ⟨b, 0, none⟩) 3 3] w (LFRet w [1, 2, 3] (0, 0)) := by
  have := Zones_c (some ⟨b, 0, none⟩) plL 3 w (by decide) hs hg
  rw [pl_sites, if_pos rfl, pl_zones] at this
  exact this
theorem parts_pl : Calls Try.prog 16 #[.slice (some ⟨b, 0, none⟩) 3 3] w (PRet w [[0, 1], [2]] (0, 0)) := by
  have := Parts_c (some ⟨b, 0, none⟩) plL 3 w (by decide) hs hg
  rw [pl_sites, if_pos rfl, pl_parts] at this
  exact this
theorem life_pl : Calls Try.prog 28 #[.slice (some ⟨b, 0, none⟩) 3 3, .int .i64 1, .agg #[.int .i64 0, .int .i64 9]] w (IRet w 4 (0, 0)) := by
  have := Life_c (some ⟨b, 0, none⟩) plL 3 1 0 9 w (by decide) (by decide) hs hg
  rw [pl_life.1, pl_life.2] at this
  exact this
theorem valid_pl : Calls Try.prog 22 #[.slice (some ⟨b, 0, none⟩) 3 3] w (FRet w (0, 0)) := by
  have := Validate_c (some ⟨b, 0, none⟩) plL 3 w (by decide) hs hg
  rw [pl_sites] at this
  exact this
end
end Go.Proofs.Ytbhcaniopdgjkaa
