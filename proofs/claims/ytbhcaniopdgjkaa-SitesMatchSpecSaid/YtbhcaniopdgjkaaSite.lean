import Derived.Test.YtbhcaniopdgjkaaMeet2
import Derived.Test.YtbhcaniopdgjkaaCheap
namespace Go.Proofs.Ytbhcaniopdgjkaa
open Go Go.Proofs Go.RowKit
set_option maxHeartbeats 800000
open Plain (SiteD)
def I64 (n : Int) : Prop := -9223372036854775808 ≤ n ∧ n ≤ 9223372036854775807
structure SiteAt (w : World) (b o : Nat) (s : SiteD) : Prop where
  name : ∃ nm : ByteArray, w.cell? ⟨b, o, none⟩ = some (.string nm) ∧ nm.data.toList = s.name ∧ nm.size ≤ maxLen
  zones : ∃ Z c, w.cell? ⟨b, o + 1, none⟩ = some (.slice Z s.zones.length c) ∧ s.zones.length ≤ c ∧ c ≤ maxLen ∧ (Z = none → c = 0) ∧ Sl w .i64 Z s.zones
  cost : w.cell? ⟨b, o + 2, none⟩ = some (.int .i64 s.cost)
  wear : w.cell? ⟨b, o + 3, none⟩ = some (.int .i64 s.wear)
  icost : I64 s.cost
  iwear : I64 s.wear
theorem SiteAt.ext {w w' : World} {b o : Nat} {s : SiteD} (h : SiteAt w b o s) (e : Ext w w') : SiteAt w' b o s := by
  obtain ⟨nm, h1, h2, h3⟩ := h.name
  obtain ⟨Z, c, z1, z2, z3, z4, z5⟩ := h.zones
  exact ⟨⟨nm, e.cell h1, h2, h3⟩, ⟨Z, c, e.cell z1, z2, z3, z4, z5.ext e⟩, e.cell h.cost, e.cell h.wear, h.icost, h.iwear⟩
/-- A slice of sites. -/
def Sites (w : World) (A : Option Addr) (L : List SiteD) : Prop := ∀ i s, L[i]? = some s → ∃ b o, A = some ⟨b, o, none⟩ ∧ SiteAt w b (o + i * 4) s
theorem Sites.ext {w w' : World} {A : Option Addr} {L : List SiteD} (h : Sites w A L) (e : Ext w w') : Sites w' A L := fun i s hs => by
  obtain ⟨b, o, h1, h2⟩ := h i s hs
  exact ⟨b, o, h1, h2.ext e⟩
/-- A new slice of integers. -/
def LRet (w : World) (l : List Int) (e : Ending) (w' : World) : Prop := ∃ v, e = .returned v ∧ w'.ownsRow w.heap.size 3 1 v l.length (l.map (Value.int .i64)) ∧ Ext w w'
theorem info3 : (Try.prog.info? 3).map (fun i => (i.zero, i.size, i.bytes)) = some (some (.int .i64 0), 1, 8) := by kernel_rfl
theorem slc_new (w : World) (xs : List Value) (t : TypeId) : SlC (w.alloc (.cells xs.toArray t)) (some ⟨w.heap.size, 0, none⟩) xs := by
  intro i u hu
  refine ⟨_, rfl, ?_⟩
  have hadd : (⟨w.heap.size, 0, none⟩ : Addr).add i = ⟨w.heap.size, i, none⟩ := by unfold Addr.add; split <;> simp_all
  rw [hadd]
  simp [hu]
theorem own_lt {w : World} {base : Nat} {e : TypeId} {size n : Nat} {v : Value} {xs : List Value} (h : w.ownsRow base e size v n xs) {g : Nat} (hg : v.ownBlock = some g) : base ≤ g ∧ g < w.heap.size := h.lt g hg
theorem own_keep {w w' : World} {base : Nat} {e : TypeId} {size n : Nat} {v : Value} {xs : List Value} (h : w.ownsRow base e size v n xs) (hk : ∀ g, v.ownBlock = some g → w'.heap[g]? = w.heap[g]?) : w'.ownsRow base e size v n xs := by
  refine ⟨h.1, ?_⟩
  rcases h.2 with hn | ⟨g, cap, cur, rfl, hb, hgg, rest⟩
  · exact .inl hn
  · exact .inr ⟨g, cap, cur, rfl, hb, by rw [hk g rfl]; exact hgg, rest⟩
theorem own_ext {w w' : World} {base : Nat} {e : TypeId} {v : Value} {n : Nat} {xs : List Value} (h : w.ownsRow base e 1 v n xs) (x : Ext w w') : w'.ownsRow base e 1 v n xs :=
  own_keep h fun g hg => x.block g (own_lt h hg).2
/-- The row has grown at its end; what lay below the call is as it was. -/
theorem grow_ext {w wx w2 : World} {e : TypeId} {v : Value} {n : Nat} {xs : List Value} (h : Ext w wx) (ho : wx.ownsRow w.heap.size e 1 v n xs) (hg : wx.grownBy w2 v.ownBlock) : Ext w w2 :=
  Below.grown h hg h.size fun _ hk => (own_lt ho hk).1
theorem left_step {L : List SiteD} {ch lost : List Int} {k : Nat} {i : Int} (hi : ch[k]? = some i) : Plain.leftF L (ch.take (k + 1)) lost = Plain.leftF L (ch.take k) lost ++ (if Plain.meetB (Plain.zonesAt L i) lost = true then [] else [i]) := by
  obtain ⟨h1, rfl⟩ := List.getElem?_eq_some_iff.1 hi
  unfold Plain.leftF
  rw [List.take_succ_eq_append_getElem h1, List.filter_append]
  congr 1
  cases h : Plain.meetB (Plain.zonesAt L ch[k]) lost <;> simp [h]
end Go.Proofs.Ytbhcaniopdgjkaa
