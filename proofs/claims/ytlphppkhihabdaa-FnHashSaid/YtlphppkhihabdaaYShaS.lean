/- What the reference's digest is: plain Lean on lists of whole numbers. -/
import Derived.Test.YtlphppkhihabdaaYShaB
set_option linter.unusedVariables false
namespace Go.Proofs.Ytlphppkhihabdaa.ShaA
open Go Go.RowKit Go.Proofs.Ytlphppkhihabdaa.Limb Go.Proofs.Ytlphppkhihabdaa.Arr Go.Proofs.YtlphppkhihabdaaW.PrintWords
/-- a byte of a number -/
def byS (x : Int) (n : Nat) : Int := x / 2 ^ n % 256
def b8S (x : Int) : Nat → List Int
  | 0 => []
  | k + 1 => b8S x k ++ [byS x (8 * (7 - k))]
theorem b8S_length (x : Int) (k : Nat) : (b8S x k).length = k := by
  induction k with
  | zero => rfl
  | succ k ih => show (b8S x k ++ [_]).length = _; rw [List.length_append, ih]; rfl
def padS (l : List Int) : List Int := ((l ++ [128]) ++ List.replicate (zN l.length) 0) ++ List.replicate 8 0 ++ b8S (8 * (l.length : Int)) 8
theorem padS_length (l : List Int) : (padS l).length = l.length + 1 + zN l.length + 16 := by
  simp only [padS, List.length_append, List.length_replicate, b8S_length, List.length_singleton]
theorem padS_mod (l : List Int) : (padS l).length % 128 = 0 := by
  rw [padS_length]; unfold zN; omega
def hshS (K h p : List Int) : Nat → List Int
  | 0 => h
  | k + 1 => blkS K (hshS K h p k) (blkL p k)
theorem hshS_length (K h p : List Int) (hh : h.length = 8) (i : Nat) : (hshS K h p i).length = 8 := by
  induction i with
  | zero => exact hh
  | succ i ih => show (outS _ _ 8).length = 8; rw [outS_length]
/-- the bytes of the numbers, the k first of them -/
def outB (vs : List Int) : Nat → List Int
  | 0 => []
  | k + 1 => outB vs k ++ b8S (vs.getD k 0) 8
theorem outB_length (vs : List Int) (k : Nat) : (outB vs k).length = 8 * k := by
  induction k with
  | zero => rfl
  | succ k ih => show (outB vs k ++ b8S _ 8).length = _; rw [List.length_append, ih, b8S_length]; omega
def digestS (l : List Int) : List Int := outB (hshS shaK shaH (padS l) ((padS l).length / 128)) 8
end Go.Proofs.Ytlphppkhihabdaa.ShaA
namespace Go.Proofs.Ytlphppkhihabdaa.ShaS
theorem here : True := trivial
end Go.Proofs.Ytlphppkhihabdaa.ShaS
