/- An element of an array by value. -/
import Derived.Test.YtlajcahlmbjmnaaYStOps
namespace Go.Proofs.Ytlajcahlmbjmnaa.StIdx
open Go Go.RowKit Go.Proofs.Ytlajcahlmbjmnaa.Arr Go.Proofs.Ytlajcahlmbjmnaa.Limb Go.Proofs.YtlajcahlmbjmnaaW.PrintWords
theorem run_index_arr {P : Program} {w : World} (t e : TypeId) (n : Nat) (k : IntKind) (xs : List Int) (i : Nat) (h : P.underlying t = some (.array n e)) (kk : IntKind) (hu : P.underlying e = some (.int kk)) (hs : (P.info? e).map (·.size) = some 1) (hi : i < n) (hx : xs.length = n) :
    (Instr.index t (.agg (arr k xs)) (.int .i64 (i : Int))).run P w = .ok (.int k (xs.getD i 0)) w := by
  have h1 : 0 ≤ (i : Int) ∧ (i : Int) < (n : Int) := by omega
  have h2 := arr_get k xs i (by omega)
  obtain ⟨ie, hie, hsz⟩ := Option.map_eq_some_iff.1 hs
  have hag : (isAgg e).run P w = .ok false w := by
    unfold isAgg
    rw [Sem.run_bind, run_underlying hu w]
    simp
  have hso : (sizeOf e).run P w = .ok 1 w := by simp [sizeOf, typeInfo, hie, hsz]
  simp only [List.getD_eq_getElem?_getD] at h2 ⊢
  simp [Instr.index, run_underlying h, asIntOf, h1, hi, hag, hso, h2, go_sem]
end Go.Proofs.Ytlajcahlmbjmnaa.StIdx
