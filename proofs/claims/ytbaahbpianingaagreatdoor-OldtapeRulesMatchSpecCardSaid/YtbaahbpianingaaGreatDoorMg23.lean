import Derived.Test.YtbaahbpianingaaGreatDoorMg17
import Derived.Test.YtbaahbpianingaaGreatDoorMg4
namespace Go.Proofs.YtbaahbpianingaaGreatDoor
open Go Go.Proofs Go.RowKit
open Tape (Rule Ts splitP)
set_option maxHeartbeats 6400000
set_option maxRecDepth 100000
/-- A string that is returned. -/
def SRetS (w : World) (s : ByteArray) (e : Ending) (w' : World) : Prop := e = .returned (.string s) ∧ Ext w w'
theorem ret_str {a b : ByteArray} (h : a = b) : Ending.returned (.string a) = .returned (.string b) := by rw [h]
theorem Sl.conv {P : Program} {w : World} {A : Option Addr} {l : List Int} (h : Sl w .u8 A l) (src e dst : TypeId) (hs : P.underlying src = some (.slice e)) (he : P.underlying e = some (.int .u8)) (hd : P.underlying dst = some .string) (c : Nat) :
    (convert src dst (.slice A l.length c)).run P w = .ok (.string (strOfNums l)) w := by
  cases l with
  | nil =>
    cases A with
    | none => simp only [List.length_nil]; rw [run_convert_bytes_nil w src e hs he 0 c dst hd]; rfl
    | some a =>
      simp only [List.length_nil]
      rw [run_convert_bytes_string w src dst e _ 0 c hs he hd, run_bytesToString w _ 0 c [] (by simp [loadCells, loadCellsFrom])]
      rfl
  | cons x r =>
    obtain ⟨b, o, rfl, _⟩ := h.at_ (i := 0) (by simp)
    refine run_convert_bytes_arg w src e hs he b o _ c (x :: r) rfl (fun i hi => ?_) dst hd
    obtain ⟨b', o', hA, hc⟩ := h.at_ hi
    cases hA
    rw [hc]; simp
theorem Decimal_c (n : Nat) : ∀ (w : World), n < 4294967296 → Calls Tryz.prog 57 #[.int .u32 (n : Int)] w (SRetS w (strOfNums (Acc.dec n))) := by
  induction n using Nat.strongRecOn with
  | _ n ih =>
    intro w hn
    by_cases h : n < 10
    · have hcv : (convert 77 9 (.slice (some ⟨w.heap.size, 0, none⟩) 1 1)).run Tryz.prog (w.alloc (.cells #[.int .u8 (48 + (n : Int))] 5)) = .ok (.string (strOfNums [48 + (n : Int)])) (w.alloc (.cells #[.int .u8 (48 + (n : Int))] 5)) :=
        Sl.conv (l := [48 + (n : Int)]) (sl_block (heap_alloc_new w _) rfl) 77 5 9 Tryz.underlying77 Tryz.underlying5 Tryz.underlying9 1
      rw [Acc.dec_small h]
      clear ih
      go_enter Tryz.func57, Tryz.ntmps57
      go_wp2
      go_ret
      exact ⟨rfl, (Ext.refl w).alloc _⟩
    · have i1 := Lib.hid (ih (n / 10) (by omega))
      have i2 := Lib.hid (ih (n % 10) (by omega))
      have e1 : Acc.dec (n % 10) = [48 + ((n % 10 : Nat) : Int)] := Acc.dec_small (by omega)
      rw [Acc.dec_big h, ← e1, ← strOfNums_append]
      obtain ⟨d, hd⟩ : ∃ d, n / 10 = d := ⟨_, rfl⟩
      obtain ⟨r, hr⟩ : ∃ r, n % 10 = r := ⟨_, rfl⟩
      have q1 : ((n : Int) / 10) = (d : Int) := by omega
      have q2 : ((n : Int) % 10) = (r : Int) := by omega
      have t1 : (n : Int).tdiv 10 = (d : Int) := by rw [Int.tdiv_eq_ediv_of_nonneg (by omega)]; exact q1
      have t2 : (n : Int).tmod 10 = (r : Int) := by rw [Int.tmod_eq_emod_of_nonneg (by omega)]; exact q2
      have hd0 : d < 4294967296 := by omega
      have hr0 : r < 4294967296 := by omega
      have h10 : ¬ ((n : Int) < 10) := by omega
      rw [hd] at i1
      rw [hr] at i2
      rw [hd, hr]
      have z1 : (strOfNums (Acc.dec d)).size ≤ 10 := by rw [strOfNums_size]; exact Acc.dec_len (by omega) (by omega)
      have z2 : (strOfNums (Acc.dec r)).size ≤ 10 := by rw [strOfNums_size]; exact Acc.dec_len (by omega) (by omega)
      clear ih hd hr q1 q2 e1
      generalize strOfNums (Acc.dec d) = S at *
      generalize strOfNums (Acc.dec r) = R at *
      go_enter Tryz.func57, Tryz.ntmps57
      go_wp2_with fail
      refine (i1.out w hd0).mono ?_
      rintro e w1 ⟨rfl, hx1⟩
      have HX1 := Lib.hid hx1
      clear hx1
      go_wp2_with fail
      refine (i2.out w1 hr0).mono ?_
      rintro e w2 ⟨rfl, hx2⟩
      have HX2 := Lib.hid (HX1.out.trans hx2)
      clear hx2
      go_wp2_with fail
      go_ret
      exact ⟨rfl, HX2.out⟩
theorem SignedT_c (m : Nat) (w : World) (h : m < 4294967296) : Calls Tryz.prog 44 #[.int .i64 (m : Int)] w (SRetS w (strOfNums (Acc.dec m))) := by
  have HI := Lib.hid (Decimal_c m w h)
  have hn : ¬ ((m : Int) < 0) := by omega
  go_enter Tryz.func44, Tryz.ntmps44
  go_wp2_with (go_at_call 57; refine HI.out.mono ?_; rintro e w1 ⟨rfl, hx⟩)
  go_ret
  exact ⟨rfl, hx⟩
end Go.Proofs.YtbaahbpianingaaGreatDoor
