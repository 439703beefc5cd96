/- A whole array loaded where a guard lets it, and a store beside the blocks of a state. -/
import Derived.Test.YtlajcahlmbjmnaaYStOps
import Derived.Lib.SliceRun
namespace Go.Proofs.Ytlajcahlmbjmnaa.StPt
open Go.RowKit Go.Proofs.Ytlajcahlmbjmnaa.Arr Go.Proofs.Ytlajcahlmbjmnaa.Limb Go.Proofs.Ytlajcahlmbjmnaa.St Go.Proofs.YtlajcahlmbjmnaaW.PrintWords Go.Proofs.YtlajcahlmbjmnaaW.PrintLast Go.Proofs.YtlajcahlmbjmnaaW.PrintMore
set_option linter.unusedVariables false
theorem ld_arr_on {P : Program} {ops : Array Oper} {rest : List Oper} {o : Oper} {a : Act} {w : World} {Q : Exit → Act → World → Prop} (hgd : Region.wanted o (yielded ops a.tmps) = true) (ty : TypeId) (x : Operand) (ho : o.op = .load ty x) (g : Nat) (hx : a.eval x = .pointer (some ⟨g, 0, none⟩)) {t : TypeId} {k : IntKind} {xs : List Int} (hg : w.heap[g]? = some (.cells (arr k xs) t (0, 0)))
    {e : TypeId} {n : Nat} (hu : P.underlying ty = some (.array e n)) {m : Nat} (hi : (P.info? ty).map (·.size) = some m) (hm : xs.length = m) (h : wpList P ops Q rest (a.put o.dst (.agg (arr k xs))) w) : wpList P ops Q (o :: rest) a w :=
  wpList_step fun K hK => by rw [if_pos hgd]; exact wp_load_row ty x ho g hx t _ _ _ hg hu rfl (by rw [hi, arr_size, hm]) (hK _ _ h)
theorem St_far {w wr : World} {bs : List Blk} (h : St w bs wr) (g j : Nat) (v : Value) (hg : w.heap.size + bs.length ≤ g) : St w bs (wr.setCell ⟨g, j, none⟩ v) :=
  ⟨below_set h.1 (by omega), fun m b hm => by
    have : m < bs.length := by
      rcases Nat.lt_or_ge m bs.length with h1 | h1
      · exact h1
      · rw [List.getElem?_eq_none h1] at hm; cases hm
    exact blk_far (h.2 m b hm) (p := ⟨g, j, none⟩) (by show _ ≠ g; omega) _⟩
end Go.Proofs.Ytlajcahlmbjmnaa.StPt
