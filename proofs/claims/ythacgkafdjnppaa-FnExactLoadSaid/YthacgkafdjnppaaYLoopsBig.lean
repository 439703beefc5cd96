/- Plain facts: the bytes of a number, the highest first; no program in sight. -/
import Derived.Test.YthacgkafdjnppaaYLoops
namespace Go.Proofs.Ythacgkafdjnppaa.Loops
open Go.RowKit Go.Proofs.Ythacgkafdjnppaa.Num Go.Proofs.YthacgkafdjnppaaW.PrintWords
def bigL (n : Int) : Nat → List Int
  | 0 => []
  | m + 1 => n / 256 ^ m % 256 :: bigL n m
theorem bigL_length (n : Int) (m : Nat) : (bigL n m).length = m := by induction m with
  | zero => rfl
  | succ m ih => simp [bigL, ih]
theorem bigL_range (n : Int) (m : Nat) : ∀ b ∈ bigL n m, 0 ≤ b ∧ b < 256 := by
  induction m with
  | zero => intro b h; simp [bigL] at h
  | succ m ih =>
    intro b h
    simp only [bigL, List.mem_cons] at h
    rcases h with rfl | h
    · exact ⟨by omega, by omega⟩
    · exact ih b h
end Go.Proofs.Ythacgkafdjnppaa.Loops
