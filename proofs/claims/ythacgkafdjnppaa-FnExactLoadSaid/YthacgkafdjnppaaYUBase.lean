/- Plain facts on lists read and set at a place; no program in sight. -/
import Derived.Test.YthacgkafdjnppaaXUm4
import Derived.Test.YthacgkafdjnppaaYBits
namespace Go.Proofs.Ythacgkafdjnppaa.YU
open Go.RowKit Go.Proofs.Ythacgkafdjnppaa.Num Go.Proofs.Ythacgkafdjnppaa.XU Go.Proofs.YthacgkafdjnppaaW.PrintWords Go.Proofs.YthacgkafdjnppaaW.PrintLast
theorem Ev.eq {α : Type} {g : Nat → Option α} {r r' : α} (h : Ev g r) (e : r = r') : Ev g r' := e ▸ h
theorem rd_nat (l : List Int) (i : Nat) : rd l (i : Int) = l.getD i 0 := by simp [rd]
theorem ext_getD {l m : List Int} (h : l.length = m.length) (e : ∀ i, i < l.length → l.getD i 0 = m.getD i 0) : l = m := by
  apply List.ext_getElem h
  intro i h1 h2
  have := e i h1
  simpa [List.getD_eq_getElem?_getD, List.getElem?_eq_getElem h1, List.getElem?_eq_getElem h2] using this
theorem getD_set (l : List Int) (i j : Nat) (v : Int) (hi : i < l.length) : (l.set i v).getD j 0 = if j = i then v else l.getD j 0 := by
  simp only [List.getD_eq_getElem?_getD, List.getElem?_set]
  by_cases h : j = i
  · subst h; simp [hi]
  · rw [if_neg (fun e => h e.symm), if_neg h]
end Go.Proofs.Ythacgkafdjnppaa.YU
