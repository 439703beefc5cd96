/- Whole arrays loaded and stored in regions that draw their order. -/
import Derived.Test.YtmkemagjedihmaaYSt
import Derived.Test.YtmkemagjedihmaaYOpenS
namespace Go.Proofs.Ytmkemagjedihmaa.StOps
open Go.RowKit Go.Proofs.Ytmkemagjedihmaa.Arr Go.Proofs.Ytmkemagjedihmaa.Limb Go.Proofs.Ytmkemagjedihmaa.St Go.Proofs.YtmkemagjedihmaaW.PrintWords Go.Proofs.YtmkemagjedihmaaW.PrintLast Go.Proofs.YtmkemagjedihmaaW.PrintMore
set_option linter.unusedVariables false
variable {P : Program}
theorem run_ld {ρ : Operand → Value} {o : Oper} {w : World} (ty : TypeId) (x : Operand) (ho : o.op = .load ty x) (g : Nat) (hx : ρ x = .pointer (some ⟨g, 0, none⟩)) {t : TypeId} {k : IntKind} {xs : List Int} (hg : w.heap[g]? = some (.cells (arr k xs) t (0, 0)))
    {e : TypeId} {n : Nat} (hu : P.underlying ty = some (.array e n)) {m : Nat} (hi : (P.info? ty).map (·.size) = some m) (hm : xs.length = m) : (execOp ρ o).run P w = .ok (.value (.agg (arr k xs))) w := by
  unfold execOp
  simp only [ho, hx, Instr.loadAt, Instr.sureAddr, Sem.run_bind, Sem.run_pure, Result.andThen_ok, run_loadVar_row w g t ty _ _ _ hg hu rfl (by rw [hi, arr_size, hm])]
theorem st_step {ops : Array Oper} {oi : Oper} {a : Act} {w : World} {K : Act → World → Prop} {Q : Exit → Act → World → Prop} (hw : Region.wanted oi (yielded ops a.tmps) = true) (hN : oi.dst = none) (ty : TypeId) (x y : Operand) (ho : oi.op = .store ty x y) (g : Nat) {k k' : IntKind} {xs ys : List Int} (hx : a.eval x = .pointer (some ⟨g, 0, none⟩)) (hy : a.eval y = .agg (arr k xs))
    {t : TypeId} (hg : w.heap[g]? = some (.cells (arr k' ys) t (0, 0))) {m : Nat} (hi : (P.info? ty).map (·.size) = some m) (hm : xs.length = m) (hl : ys.length = xs.length)
    (h : ∀ w', (w'.heap[g]? = some (.cells (arr k xs) t (0, 0))) → (∀ j, j ≠ g → w'.heap[j]? = w.heap[j]?) → (∀ B w0, Below B w0 w → B ≤ g → Below B w0 w') → (w'.heap.size = w.heap.size) → K a w') : if Region.wanted oi (yielded ops a.tmps) = true then Oper.wp P oi a w K Q else K (a.put none undef) w := by
  rw [if_pos hw]
  refine wp_store_row ty x y ho g (arr k xs) hx hy t _ hg (by rw [hi, arr_size, hm]) (by rw [arr_size, arr_size, hl]) (arr_one k xs) ?_
  rw [hN]
  exact h _ (setRow_heap w g _ _ t _ hg) (fun j hj => setRow_other w g j _ hj) (fun B w0 hb hB => ⟨hb.os, hb.tape, hb.output, by have := hb.size; simpa [World.setRow] using this, fun i hi => (setRow_other w g i _ (by omega)).trans (hb.block i hi)⟩) (by simp [World.setRow])
theorem _root_.Go.Proofs.Ytmkemagjedihmaa.St.St.new {w wr : World} {bs : List Blk} (h : St w bs wr) (o : Obj) : (wr.alloc o).heap[wr.heap.size]? = some o := blk_new wr o
theorem ne_of_blk {w : World} {g : Nat} {o : Obj} (h : w.heap[g]? = some o) : g ≠ w.heap.size := by
  have := (Array.getElem?_eq_some_iff.1 h).1
  omega
theorem abs_world {c : Code} {Q : Exit → Act → World → Prop} {a : Act} {W0 w : World} {bs : List Blk} (S : St w bs W0) (h : ∀ W, St w bs W → c.wp P Q a W) : c.wp P Q a W0 := h _ S
end Go.Proofs.Ytmkemagjedihmaa.StOps
