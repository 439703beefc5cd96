/- Plain facts on a row of bytes that a call has made: a string appended to it, as one step of a region that draws its order, and in a plain region. -/
import Derived.Test.YthacgkafdjnppaaYOpenWin
namespace Go.Proofs.Ythacgkafdjnppaa.OpenStr
open Go.RowKit Go.Proofs.YthacgkafdjnppaaW.PrintWords Go.Proofs.YthacgkafdjnppaaW.PrintLast Go.Proofs.YthacgkafdjnppaaW.PrintMore
section
variable {P : Program} {ops : Array Oper} {rest : List Oper} {o : Oper} {a : Act} {Q : Exit → Act → World → Prop} {Kc : Act → World → Prop}
theorem box_below {w w1 : World} {g t : Nat} {cs : Array Value} (hb : w.heap[g]? = some (.cells cs t (0, 0))) (h : Below w.heap.size w w1) : w1.heap[g]? = some (.cells cs t (0, 0)) := by
  rw [h.block g (blk_lt hb)]; exact hb
end
end Go.Proofs.Ythacgkafdjnppaa.OpenStr
