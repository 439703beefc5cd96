/- Two arrays compared by value. -/
import Derived.Test.YtlajcahlmbjmnaaYStOps
import Derived.ChangeKeysEq
namespace Go.Proofs.Ytlajcahlmbjmnaa.StEq
open Go Go.RowKit Go.Proofs.Ytlajcahlmbjmnaa.Arr Go.Proofs.Ytlajcahlmbjmnaa.Limb Go.Proofs.YtlajcahlmbjmnaaW.PrintWords
variable {P : Program}
theorem run_part {w : World} {e : TypeId} {k : IntKind} (kk : IntKind) (hu : P.underlying e = some (.int kk)) (xs : List Int) (j : Nat) (hj : j < xs.length) : (part e (arr k xs) j).run P w = .ok (.int k (xs.getD j 0)) w := by
  have hag : (isAgg e).run P w = .ok false w := by
    unfold isAgg
    rw [Sem.run_bind, run_underlying hu w]
    simp
  have h2 := arr_get k xs j hj
  simp only [List.getD_eq_getElem?_getD] at h2 ⊢
  simp [part, hag, h2, go_sem]
theorem run_items {w : World} {e : TypeId} (kk : IntKind) (k : IntKind) (hu : P.underlying e = some (.int kk)) (d : Nat) (xs ys : List Int) : ∀ (is : List Nat), (∀ i ∈ is, i < xs.length ∧ i < ys.length) →
    (Op.eqItems (d + 1) e 1 (arr k xs) (arr k ys) is).run P w = .ok (is.all fun i => xs.getD i 0 == ys.getD i 0) w
  | [], _ => by simp [Op.eqItems]
  | i :: is, h => by
    have hi := h i (by simp)
    have ih := run_items (w := w) kk k hu d xs ys is (fun j hj => h j (by simp [hj]))
    have he : (Op.equalIn (d + 1) e (.int k (xs.getD i 0)) (.int k (ys.getD i 0))).run P w = .ok (xs.getD i 0 == ys.getD i 0) w := by
      simp [Op.equalIn, run_underlying hu w]
    simp only [Op.eqItems, Sem.run_bind, Nat.mul_one, run_part kk hu xs i hi.1, run_part kk hu ys i hi.2, Result.andThen_ok, he]
    rw [List.all_cons]
    cases hq : (xs.getD i 0 == ys.getD i 0)
    · simp
    · simpa using ih
theorem all_eq (xs ys : List Int) (h : xs.length = ys.length) : ((List.range xs.length).all fun i => xs.getD i 0 == ys.getD i 0) = decide (xs = ys) := by
  rw [Bool.eq_iff_iff, decide_eq_true_iff, List.all_eq_true]
  constructor
  · intro h2
    apply List.ext_getElem h
    intro i h3 h4
    have := h2 i (by simpa using h3)
    simpa [List.getD_eq_getElem?_getD, List.getElem?_eq_getElem h3, List.getElem?_eq_getElem h4] using this
  · intro e i _
    subst e; simp
theorem run_eq_arr {w : World} (d : Nat) (t e : TypeId) (n : Nat) (kk k : IntKind) (xs ys : List Int) (hu : P.underlying t = some (.array n e)) (hi : (P.info? e).isSome = true) (hs : P.cellsOf e = 1) (he : P.underlying e = some (.int kk)) (hx : xs.length = n) (hy : ys.length = n) :
    (Op.equalIn (d + 2) t (.agg (arr k xs)) (.agg (arr k ys))).run P w = .ok (decide (xs = ys)) w := by
  obtain ⟨i, hi⟩ := Option.isSome_iff_exists.1 hi
  rw [run_equalIn_array _ (d + 1) (arr k xs) (arr k ys) hu hi, hs, run_items kk k he d xs ys (List.range n) (fun i hi => by simp at hi; omega), ← hx, all_eq xs ys (by omega)]
end Go.Proofs.Ytlajcahlmbjmnaa.StEq
