/- Plain facts: the bytes of a number, the highest first; no program in sight. -/
import Derived.Test.YthojdfndgfpkpaaYLoops
namespace Go.Proofs.Ythojdfndgfpkpaa.Loops
open Go.RowKit Go.Proofs.Ythojdfndgfpkpaa.Num Go.Proofs.YthojdfndgfpkpaaW.PrintWords

/- so many bytes of a number, the highest first -/
def bigL (n : Int) : Nat → List Int
  | 0 => []
  | m + 1 => n / 256 ^ m % 256 :: bigL n m
theorem bigL_length (n : Int) (m : Nat) : (bigL n m).length = m := by induction m with
  | zero => rfl
  | succ m ih => simp [bigL, ih]
theorem bigL_getD (n : Int) (m : Nat) : ∀ j, j < m → (bigL n m).getD j 0 = n / 256 ^ (m - 1 - j) % 256 := by
  induction m with
  | zero => intro j h; omega
  | succ m ih =>
    intro j h
    cases j with
    | zero => simp [bigL]
    | succ j =>
      have := ih j (by omega)
      rw [show m + 1 - 1 - (j + 1) = m - 1 - j from by omega, ← this]
      simp [bigL]
theorem bigL_range (n : Int) (m : Nat) : ∀ b ∈ bigL n m, 0 ≤ b ∧ b < 256 := by
  induction m with
  | zero => intro b h; simp [bigL] at h
  | succ m ih =>
    intro b h
    simp only [bigL, List.mem_cons] at h
    rcases h with rfl | h
    · exact ⟨by omega, by omega⟩
    · exact ih b h

end Go.Proofs.Ythojdfndgfpkpaa.Loops
