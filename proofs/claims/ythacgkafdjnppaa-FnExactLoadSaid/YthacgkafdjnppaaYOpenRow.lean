/- Plain facts on rows that a call has made, of elements of several cells: their end cleared, and the front kept. -/
import Derived.Test.YthacgkafdjnppaaYOpenWin
import Derived.Test.YthacgkafdjnppaaYOpenS
import Derived.Lib.SliceRun
namespace Go.Proofs.Ythacgkafdjnppaa.OpenRow
open Go.RowKit Go.Proofs.YthacgkafdjnppaaW.PrintWords Go.Proofs.YthacgkafdjnppaaW.PrintLast Go.Proofs.YthacgkafdjnppaaW.PrintMore
set_option linter.unusedVariables false
section
variable {α : Type} {d : Kd α} {e base g n cap : Nat} {ok okp : Nat → Prop} {xs : List α}
def zeros (zc : List Value) : Nat → List Value
  | 0 => []
  | t + 1 => zc ++ zeros zc t
theorem zeros_length (zc : List Value) (t : Nat) : (zeros zc t).length = t * zc.length := by
  induction t with
  | zero => simp [zeros]
  | succ t ih => rw [zeros, List.length_append, ih, Nat.succ_mul]; omega
theorem zeros_get (zc : List Value) (h0 : 0 < zc.length) (t : Nat) : ∀ i, i < t * zc.length → (zeros zc t)[i]? = zc[i % zc.length]? := by
  induction t with
  | zero => intro i h; omega
  | succ t ih =>
    intro i h
    rw [zeros]
    by_cases c : i < zc.length
    · rw [List.getElem?_append_left c, Nat.mod_eq_of_lt c]
    · rw [List.getElem?_append_right (by omega), ih _ (by rw [Nat.succ_mul] at h; omega)]
      congr 1
      rw [← Nat.mod_eq_sub_mod (by omega)]
theorem zeroCells_is (zc : List Value) (h0 : 0 < zc.length) (m : Nat) : (Builtin.zeroCells zc.toArray m).toList = zeros zc m := by
  apply List.ext_getElem?
  intro i
  unfold Builtin.zeroCells
  by_cases c : i < m * zc.length
  · rw [zeros_get zc h0 m i c]
    have hlt : i % zc.length < zc.length := Nat.mod_lt _ h0
    simp [c, hlt]
  · rw [List.getElem?_eq_none (by simp; omega), List.getElem?_eq_none (by rw [zeros_length]; omega)]
theorem zeros_mem {zc : List Value} {m : Nat} {u : Value} (h : u ∈ zeros zc m) : u ∈ zc := by
  induction m with
  | zero => cases h
  | succ m ih => rw [zeros] at h; rcases List.mem_append.1 h with h | h
                 · exact h
                 · exact ih h
theorem run_clear {P : Program} (w : World) (t e ty : TypeId) (z : Value) (zc : List Value) (ht : P.underlying t = some (.slice e)) (hv : ∀ w, (zeroValue e).run P w = .ok z w) (hz : z.cells = zc.toArray) (h0 : 0 < zc.length) (h1 : ∀ u ∈ zc, u.oneCell' = true)
    (g o m c : Nat) (hm : 0 < m) (hc : ∀ j, j < m * zc.length → (w.cell? ⟨g, o + j, none⟩).isSome = true) (hf : ∀ j, j < m * zc.length → w.frozen? ⟨g, o + j, none⟩ = false) :
    (Builtin.clear_ #[t] ty #[.slice (some ⟨g, o, none⟩) m c]).run P w = .ok (.tuple #[]) (w.setCells g o (zeros zc m)) := by
  have hst := run_storeCells_cells (P := P) g o (zeros zc m) 0 w (by rw [zeros_length]; simpa using hc) (by rw [zeros_length]; simpa using hf) (fun v hv' => h1 v (zeros_mem hv'))
  simp only [Nat.add_zero] at hst
  obtain ⟨k, rfl⟩ : ∃ k, m = k + 1 := ⟨m - 1, by omega⟩
  simp [Builtin.clear_, run_underlying ht, hv, hz, zeroCells_is zc h0, hst]
end
end Go.Proofs.Ythacgkafdjnppaa.OpenRow
