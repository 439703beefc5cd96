/- Plain facts on the reference's sums, differences and products in sixteen pieces; no program in sight. -/
import Derived.Test.YtmkemagjedihmaaYFldB
namespace Go.Proofs.Ytmkemagjedihmaa.FldC
open Go.RowKit Go.Proofs.Ytmkemagjedihmaa.Arr Go.Proofs.Ytmkemagjedihmaa.Limb Go.Proofs.Ytmkemagjedihmaa.FldA Go.Proofs.Ytmkemagjedihmaa.FldB Go.Proofs.YtmkemagjedihmaaW.PrintWords
set_option linter.unusedVariables false

def addS (xs ys : List Int) : Nat → List Int
  | 0 => xs
  | k + 1 => (addS xs ys k).set k ((addS xs ys k).getD k 0 + ys.getD k 0)
theorem addS_length (xs ys : List Int) (k : Nat) : (addS xs ys k).length = xs.length := by
  induction k with
  | zero => rfl
  | succ k ih => simp [addS, ih]
theorem addS_rest (xs ys : List Int) (k : Nat) : ∀ j, k ≤ j → (addS xs ys k).getD j 0 = xs.getD j 0 := by
  induction k with
  | zero => intro j _; rfl
  | succ k ih =>
    intro j hj
    unfold addS
    by_cases hk : k < (addS xs ys k).length
    · rw [getD_setI _ _ _ _ hk, if_neg (by omega)]; exact ih j (by omega)
    · rw [List.set_eq_of_length_le (by omega)]; exact ih j (by omega)
theorem fe_getD (x i : Nat) : 0 ≤ (fe x).getD i 0 ∧ (fe x).getD i 0 < 65536 := by
  by_cases h : i < 16
  · exact getD_range (fe_ok x) i (by rw [fe_length]; exact h)
  · rw [getD_ge _ _ (by rw [fe_length]; omega)]; omega
theorem addS_bd (x y k : Nat) : Bd (addS (fe x) (fe y) k) := by
  induction k with
  | zero => exact fe_bd x
  | succ k ih =>
    unfold addS
    rw [addS_rest _ _ _ _ (Nat.le_refl k)]
    have a := fe_getD x k
    have b := fe_getD y k
    exact ih.set k _ (by omega) (by omega)
theorem addS_take (xs ys : List Int) (hx : xs.length = 16) (hy : ys.length = 16) (k : Nat) (hk : k ≤ 16) : lval 65536 (addS xs ys k) = lval 65536 xs + lval 65536 (ys.take k) := by
  induction k with
  | zero => simp [addS, lval]
  | succ k ih =>
    unfold addS
    rw [lval_set _ _ _ _ (by rw [addS_length]; omega), ih (by omega), List.take_succ_eq_append_getElem (by omega), lval_append]
    have e : ys[k]'(by omega) = ys.getD k 0 := by rw [List.getD_eq_getElem?_getD, List.getElem?_eq_getElem (by omega)]; rfl
    rw [e, List.length_take, Nat.min_eq_left (by omega)]
    simp only [lval]
    generalize (addS xs ys k).getD k 0 = a
    generalize ys.getD k 0 = b
    generalize ((65536 : Nat) : Int) ^ k = P
    grind
theorem fe_lval (x : Nat) (hx : x < BB) : lval 65536 (fe x) = x := by rw [fe_val, BB_pow, Nat.mod_eq_of_lt hx]
theorem add_fe (x y : Nat) (hx : x < BB) (hy : y < BB) : ∃ c, c < BB ∧ carN (addS (fe x) (fe y) 16) 3 = fe c ∧ c % PP = (x + y) % PP := by
  have hl := addS_length (fe x) (fe y) 16
  rw [fe_length] at hl
  have hv := addS_take (fe x) (fe y) (fe_length x) (fe_length y) 16 (by omega)
  rw [List.take_of_length_le (by rw [fe_length]; omega), fe_lval x hx, fe_lval y hy] at hv
  obtain ⟨c, h1, h2, h3⟩ := carN_fe _ (addS_bd x y 16) hl _ hv (by omega)
  refine ⟨c, h1, h2, ?_⟩
  rw [PP_int] at h3; rw [PP_eq]; omega

def subS (xs ys : List Int) : Nat → List Int
  | 0 => xs
  | k + 1 => (subS xs ys k).set k ((subS xs ys k).getD k 0 + (65535 - ys.getD k 0))
theorem subS_length (xs ys : List Int) (k : Nat) : (subS xs ys k).length = xs.length := by
  induction k with
  | zero => rfl
  | succ k ih => simp [subS, ih]
theorem subS_rest (xs ys : List Int) (k : Nat) : ∀ j, k ≤ j → (subS xs ys k).getD j 0 = xs.getD j 0 := by
  induction k with
  | zero => intro j _; rfl
  | succ k ih =>
    intro j hj
    unfold subS
    by_cases hk : k < (subS xs ys k).length
    · rw [getD_setI _ _ _ _ hk, if_neg (by omega)]; exact ih j (by omega)
    · rw [List.set_eq_of_length_le (by omega)]; exact ih j (by omega)
theorem subS_bs (x y k : Nat) : Bs (subS (fe x) (fe y) k) := by
  induction k with
  | zero => intro i; have := fe_getD x i; exact ⟨by show _ ≤ (fe x).getD i 0; omega, by show (fe x).getD i 0 ≤ _; omega⟩
  | succ k ih =>
    unfold subS
    rw [subS_rest _ _ _ _ (Nat.le_refl k)]
    have a := fe_getD x k
    have b := fe_getD y k
    exact ih.set k _ (by omega) (by omega)
theorem subS_take (xs ys : List Int) (hx : xs.length = 16) (hy : ys.length = 16) (k : Nat) (hk : k ≤ 16) : lval 65536 (subS xs ys k) = lval 65536 xs + (((65536 ^ k : Nat) : Int) - 1) - lval 65536 (ys.take k) := by
  induction k with
  | zero => simp [subS, lval]
  | succ k ih =>
    unfold subS
    rw [lval_set _ _ _ _ (by rw [subS_length]; omega), ih (by omega), List.take_succ_eq_append_getElem (by omega), lval_append]
    have e : ys[k]'(by omega) = ys.getD k 0 := by rw [List.getD_eq_getElem?_getD, List.getElem?_eq_getElem (by omega)]; rfl
    rw [e, List.length_take, Nat.min_eq_left (by omega), Nat.pow_succ]
    simp only [lval]
    generalize (subS xs ys k).getD k 0 = a
    generalize ys.getD k 0 = b
    rw [show ((65536 ^ k * 65536 : Nat) : Int) = ((65536 : Nat) : Int) ^ k * 65536 from by simp, show ((65536 ^ k : Nat) : Int) = ((65536 : Nat) : Int) ^ k from by simp]
    generalize ((65536 : Nat) : Int) ^ k = P
    grind
def subT (x y : Nat) : List Int := (subS (fe x) (fe y) 16).set 0 ((subS (fe x) (fe y) 16).getD 0 0 - 37)
theorem subT_length (x y : Nat) : (subT x y).length = 16 := by simp [subT, subS_length, fe_length]
theorem sub_fe (x y : Nat) (hx : x < BB) (hy : y < BB) : Bd (subT x y) ∧ ∃ c, c < BB ∧ carN (subT x y) 3 = fe c ∧ (c + y) % PP = x % PP := by
  have hl := subS_length (fe x) (fe y) 16
  rw [fe_length] at hl
  have hv := subS_take (fe x) (fe y) (fe_length x) (fe_length y) 16 (by omega)
  rw [List.take_of_length_le (by rw [fe_length]; omega), fe_lval x hx, fe_lval y hy, BB_pow] at hv
  have hb := (subS_bs x y 16) 0
  have hbd : Bd (subT x y) := (subS_bs x y 16).bd.set 0 _ (by omega) (by omega)
  have hv2 : lval 65536 (subT x y) = (x : Int) + ((BB : Nat) : Int) - 38 - y := by
    unfold subT
    rw [lval_set _ _ _ _ (by omega), hv]
    simp only [Int.pow_zero]
    omega
  refine ⟨hbd, ?_⟩
  obtain ⟨c, h1, h2, h3⟩ := carN_fe _ hbd (subT_length x y) _ hv2 (by rw [BB_eq] at *; omega)
  refine ⟨c, h1, h2, ?_⟩
  rw [PP_int, BB_int] at h3; rw [PP_eq]; omega
end Go.Proofs.Ytmkemagjedihmaa.FldC
