/- Plain facts: the program tells right batches as the plain test does. -/
import Derived.Test.YthojdfndgfpkpaaYABatchEq
namespace Go.Proofs.Ythojdfndgfpkpaa.YA
open Go.RowKit Go.Proofs.Ythojdfndgfpkpaa.Num Go.Proofs.Ythojdfndgfpkpaa.Loops Go.Proofs.Ythojdfndgfpkpaa.XA Go.Proofs.YthojdfndgfpkpaaW.PrintWords Go.Proofs.YthojdfndgfpkpaaW.PrintLast

theorem impl_bat (l : List S88) : impl_isBatch.f l = some (batB l) := by
  unfold impl_isBatch.f batB
  rw [show impl_isBatch.ok = chgB from funext fun s => by unfold impl_isBatch.ok; rw [impl_chg]; rfl]
end Go.Proofs.Ythojdfndgfpkpaa.YA
