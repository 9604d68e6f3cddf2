import Derived.Test.YtbaahbpianingaaDoorDeck5
namespace Go.Proofs.YtbaahbpianingaaDoor
open Go Go.Proofs Go.RowKit
open Acc (Dk red five)
set_option maxHeartbeats 1000000
set_option maxRecDepth 100000
def exW : List Int := [104, 503, 1400, 7, 250]
def exS : Dk := { dk0 with words := exW ++ List.replicate (100 - exW.length) 0, input := [] }
def ex1 : Dk := { exS with at_ := 1, a := 250 }
def ex2 : Dk := { exS with at_ := 2, a := 1750, q := 0 }
def ex3 : Dk := { exS with at_ := 3, a := 1750, q := 0, output := [49, 55, 53, 48, 10] }
def ex4 : Dk := { exS with at_ := 4, a := 1750, q := 0, output := [49, 55, 53, 48, 10], stop := 1 }
theorem ex_line : Acc.lineF 1750 = [49, 55, 53, 48, 10] := by
  unfold Acc.lineF Acc.signed
  rw [if_neg (by decide)]
  show Acc.dec 1750 ++ [10] = _
  rw [Acc.dec_big (by decide), Acc.dec_big (by decide), Acc.dec_big (by decide), Acc.dec_small (by decide)]
  rfl
theorem ex_s1 : Acc.stepF exS = ex1 := by rfl
theorem ex_s2 : Acc.stepF ex1 = ex2 := by rfl
theorem ex_s3 : Acc.stepF ex2 = ex3 := by
  have ho : Acc.opF ex2 = 14 := by rfl
  have ha : Acc.addrF ex2 = ((0 : Nat) : Int) := by rfl
  have he : Acc.stopF ex2 = 0 := by
    unfold Acc.stopF
    rw [if_neg (by decide), if_neg (by rw [ho]; decide), if_neg (by rw [ha]; decide), if_neg (by rw [ho]; decide), if_neg]
    rintro ⟨_, h⟩
    have : (Acc.lineF ex2.a) = [49, 55, 53, 48, 10] := ex_line
    rw [this] at h
    revert h
    decide
  rw [step_with he ho ha]
  have : Acc.effF { ex2 with at_ := ex2.at_ + 1 } 14 ((0 : Nat) : Int) = { ex2 with at_ := ex2.at_ + 1, output := ex2.output ++ Acc.lineF 1750 } := by rfl
  rw [this, ex_line]
  rfl
theorem ex_s4 : Acc.stepF ex3 = ex4 := by rfl
theorem ex_run : Acc.runF 9 exS = (ex4, 4) := by
  have q : ∀ n s, s.stop = 0 → Acc.runF (n + 1) s = ((Acc.runF n (Acc.stepF s)).1, (Acc.runF n (Acc.stepF s)).2 + 1) := fun n s h => by rw [Acc.runF, if_pos h]
  rw [q 8 exS rfl, ex_s1, q 7 ex1 rfl, ex_s2, q 6 ex2 rfl, ex_s3, q 5 ex3 rfl, ex_s4, Acc.run_stopped (by decide)]
theorem ex_start : startG exW [] = (exS, (0, 0)) := by
  have h : faultW exW = (0, 0) := by decide +kernel
  unfold startG
  rw [if_pos h, if_neg (by decide)]
  rfl
theorem ex_fault : faultD exS = (0, 0) := by decide +kernel
theorem ex_run9 : runG exS 9 = (ex4, 4, (0, 0)) := by
  unfold runG
  rw [if_pos ex_fault, if_pos (by decide)]
  have : (9 : Int).toNat = 9 := rfl
  rw [this, ex_run]; rfl
theorem ex_run1 : runG exS 1 = (ex1, 1, (0, 0)) := by
  unfold runG
  rw [if_pos ex_fault, if_pos (by decide)]
  have : (1 : Int).toNat = 1 := rfl
  rw [this, Acc.runF, if_pos (by rfl), ex_s1]; rfl
theorem ex_valid : faultD ex4 = (0, 0) := by decide +kernel
def exC : List Int := [48, 49, 32, 45, 48, 48, 48, 49, 50, 10]
theorem ex_deck : Acc.deckText [0, -12] = exC := by
  unfold Acc.deckText
  rw [Acc.deckGo, if_pos rfl, Acc.deckGo, if_neg (by decide), Acc.deckGo]
  unfold Acc.cardF
  have h1 : Acc.dec (0 + 1) = [49] := by rw [Acc.dec_small (by decide)]; rfl
  have h2 : Acc.dec (-12 : Int).natAbs = [49, 50] := by
    show Acc.dec 12 = _
    rw [Acc.dec_big (by decide), Acc.dec_small (by decide)]; rfl
  rw [h1, h2]
  rfl
theorem ex_write : writeD [0, -12] = (exC, (0, 0)) := by
  have h : faultW [0, -12] = (0, 0) := by decide +kernel
  unfold writeD
  rw [if_pos h, ex_deck]
theorem ex_read : Acc.readDeck exC = ([0, -12] ++ List.replicate 98 0, (0, 0)) := by
  rw [← ex_deck]
  exact Acc.read_written (by decide) (by decide)
end Go.Proofs.YtbaahbpianingaaDoor
