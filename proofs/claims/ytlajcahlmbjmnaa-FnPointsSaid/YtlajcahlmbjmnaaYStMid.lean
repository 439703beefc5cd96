/- Whole arrays loaded out of the middle of a larger one. -/
import Derived.Test.YtlajcahlmbjmnaaYStOps
import Derived.Deep.MidRow
import Derived.Laws.Cover3
namespace Go.Proofs.Ytlajcahlmbjmnaa.StMid
open Go.RowKit Go.Proofs.Ytlajcahlmbjmnaa.Arr Go.Proofs.Ytlajcahlmbjmnaa.Limb Go.Proofs.Ytlajcahlmbjmnaa.St Go.Proofs.Ytlajcahlmbjmnaa.StOps Go.Proofs.YtlajcahlmbjmnaaW.PrintWords Go.Proofs.YtlajcahlmbjmnaaW.PrintLast Go.Proofs.YtlajcahlmbjmnaaW.PrintMore
set_option linter.unusedVariables false
variable {P : Program}
theorem range_mid {w : World} {g off : Nat} {t : TypeId} {k : IntKind} {xs ys : List Int} (hg : w.heap[g]? = some (.cells (arr k xs) t (0, 0))) (hs : (xs.drop off).take ys.length = ys) : w.rangeAt g off (ys.map (Value.int k)) := by
  intro j v hv
  rw [blk_cell hg]
  have hj : j < ys.length := by
    rcases Nat.lt_or_ge j ys.length with h | h
    · exact h
    · rw [List.getElem?_eq_none (by simpa using h)] at hv; cases hv
  have h2 : xs[off + j]? = ys[j]? := by
    have := congrArg (fun l => l[j]?) hs
    simp only [List.getElem?_take, List.getElem?_drop] at this
    rw [if_pos hj] at this
    exact this
  simp only [List.getElem?_map] at hv
  simp [arr, h2, hv]
theorem run_ldm {ρ : Operand → Value} {o : Oper} {w : World} (ty : TypeId) (x : Operand) (ho : o.op = .load ty x) (g off : Nat) (hx : ρ x = .pointer (some ⟨g, off, none⟩)) {t : TypeId} {k : IntKind} {xs : List Int} (ys : List Int) (hg : w.heap[g]? = some (.cells (arr k xs) t (0, 0)))
    (hs : (xs.drop off).take ys.length = ys) {e : TypeId} {n : Nat} (hu : P.underlying ty = some (.array e n)) {m : Nat} (hi : (P.info? ty).map (·.size) = some m) (hm : ys.length = m) : (execOp ρ o).run P w = .ok (.value (.agg (arr k ys))) w := by
  unfold execOp
  simp only [ho, hx]
  rw [Sem.run_bind, run_loadAt_mid w g off ty (ys.map (Value.int k)) _ (range_mid hg hs) hu rfl (by rw [hi, List.length_map, hm])]
  simp [arr]
theorem ldm_arr {ops : Array Oper} {rest : List Oper} {o : Oper} {a : Act} {w : World} {Q : Exit → Act → World → Prop} (hgd : o.guard = none) (ty : TypeId) (x : Operand) (ho : o.op = .load ty x) (g off : Nat) (hx : a.eval x = .pointer (some ⟨g, off, none⟩)) {t : TypeId} {k : IntKind} {xs : List Int} (ys : List Int) (hg : w.heap[g]? = some (.cells (arr k xs) t (0, 0)))
    (hs : (xs.drop off).take ys.length = ys) {e : TypeId} {n : Nat} (hu : P.underlying ty = some (.array e n)) {m : Nat} (hi : (P.info? ty).map (·.size) = some m) (hm : ys.length = m) (h : wpList P ops Q rest (a.put o.dst (.agg (arr k ys))) w) : wpList P ops Q (o :: rest) a w :=
  wpList_load_mid hgd ty x ho g off hx (ys.map (Value.int k)) _ (range_mid hg hs) hu rfl (by rw [hi, List.length_map, hm]) (by simpa [arr] using h)
theorem run_bd {ρ : Operand → Value} {o : Oper} {w : World} {t : TypeId} {parts : Array (Nat × Operand)} {v : Value} (ho : o.op = .build t parts) (ps : Array (Nat × Value)) (hp : (parts.map fun (i, x) => (i, ρ x)) = ps) (h : (Instr.build t ps).run P w = .ok v w) : (execOp ρ o).run P w = .ok (.value v) w := by
  subst hp
  unfold execOp
  simp only [ho, Sem.run_bind, h, Result.andThen_ok]
  rfl
theorem limbs_take (B n m x : Nat) (h : m ≤ n) : (limbs B n x).take m = limbs B m x := by
  induction m generalizing n x with
  | zero => simp [limbs]
  | succ m ih =>
    obtain ⟨n, rfl⟩ : ∃ k, n = k + 1 := ⟨n - 1, by omega⟩
    simp only [limbs, List.take_succ_cons]
    rw [ih n (x / B) (by omega)]
theorem limbs_drop (B n m x : Nat) (h : m ≤ n) : (limbs B n x).drop m = limbs B (n - m) (x / B ^ m) := by
  induction m generalizing n x with
  | zero => simp
  | succ m ih =>
    obtain ⟨n, rfl⟩ : ∃ k, n = k + 1 := ⟨n - 1, by omega⟩
    simp only [limbs, List.drop_succ_cons]
    rw [ih n (x / B) (by omega), Nat.div_div_eq_div_mul, Nat.pow_succ', show n + 1 - (m + 1) = n - m from by omega]
theorem wid_low (x : Nat) : ((wid x).drop 0).take (num x).length = num x := by
  rw [num_length]; exact limbs_take _ 8 4 x (by omega)
theorem wid_high (x : Nat) : ((wid x).drop 4).take (num (x / P64 ^ 4)).length = num (x / P64 ^ 4) := by
  rw [num_length]
  unfold wid
  rw [limbs_drop _ 8 4 x (by omega), limbs_take _ 4 4 _ (by omega)]; rfl
end Go.Proofs.Ytlajcahlmbjmnaa.StMid
