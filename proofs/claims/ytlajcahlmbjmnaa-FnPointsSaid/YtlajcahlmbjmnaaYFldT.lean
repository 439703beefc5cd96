/- Plain facts on the program's product in four pieces of 64 bits; no program in sight. -/
import Derived.Test.YtlajcahlmbjmnaaYFldM
namespace Go.Proofs.Ytlajcahlmbjmnaa.FldT
open Go.RowKit Go.Proofs.Ytlajcahlmbjmnaa.Arr Go.Proofs.Ytlajcahlmbjmnaa.Limb Go.Proofs.Ytlajcahlmbjmnaa.FldA Go.Proofs.Ytlajcahlmbjmnaa.FldB Go.Proofs.Ytlajcahlmbjmnaa.FldC Go.Proofs.Ytlajcahlmbjmnaa.FldM Go.Proofs.YtlajcahlmbjmnaaW.PrintWords
set_option linter.unusedVariables false
def tmR (xs ys : List Int) (i : Nat) (W : List Int) : Nat → List Int × Int
  | 0 => (W, 0)
  | k + 1 => ((tmR xs ys i W k).1.set (i + k) ((xs.getD i 0 * ys.getD k 0 + (tmR xs ys i W k).1.getD (i + k) 0 + (tmR xs ys i W k).2) % 18446744073709551616), (xs.getD i 0 * ys.getD k 0 + (tmR xs ys i W k).1.getD (i + k) 0 + (tmR xs ys i W k).2) / 18446744073709551616)
def tmW (xs ys : List Int) : Nat → List Int
  | 0 => List.replicate 8 0
  | i + 1 => (tmR xs ys i (tmW xs ys i) 4).1.set (i + 4) (tmR xs ys i (tmW xs ys i) 4).2
theorem tmR_length (xs ys W : List Int) (i k : Nat) : (tmR xs ys i W k).1.length = W.length := by
  induction k with
  | zero => rfl
  | succ k ih => simp [tmR, ih]
theorem tmW_length (xs ys : List Int) (i : Nat) : (tmW xs ys i).length = 8 := by
  induction i with
  | zero => simp [tmW]
  | succ i ih => simp [tmW, tmR_length, ih]
theorem prod64 (a b : Int) (ha : 0 ≤ a ∧ a < 18446744073709551616) (hb : 0 ≤ b ∧ b < 18446744073709551616) : 0 ≤ a * b ∧ a * b ≤ 340282366920938463426481119284349108225 := by
  refine ⟨Int.mul_nonneg ha.1 hb.1, ?_⟩
  have h1 : a * b ≤ 18446744073709551615 * b := Int.mul_le_mul_of_nonneg_right (by omega) hb.1
  omega
theorem tmR_ok (x y i : Nat) (hi : i < 4) (W : List Int) (hW : Ok P64 W) (hl : W.length = 8) (k : Nat) (hk : k ≤ 4) : Ok P64 (tmR (num x) (num y) i W k).1 ∧ 0 ≤ (tmR (num x) (num y) i W k).2 ∧ (tmR (num x) (num y) i W k).2 < 18446744073709551616 := by
  induction k with
  | zero => exact ⟨hW, by simp [tmR], by simp [tmR]⟩
  | succ k ih =>
    obtain ⟨h1, h2, h3⟩ := ih (by omega)
    have a := getD_range (num_ok x) i (by rw [num_length]; exact hi)
    have b := getD_range (num_ok y) k (by rw [num_length]; omega)
    have c := getD_range h1 (i + k) (by rw [tmR_length]; omega)
    have p := prod64 _ _ a b
    have c2 : (tmR (num x) (num y) i W k).1.getD (i + k) 0 < 18446744073709551616 := c.2
    simp only [tmR]
    exact ⟨ok_set h1 _ _ (by omega) (by rw [P64_eq]; omega), by omega, by omega⟩
theorem tmR_val (xs ys W : List Int) (i : Nat) (hi : i < 4) (hW : W.length = 8) (hy : ys.length = 4) (k : Nat) (hk : k ≤ 4) :
    lval P64 (tmR xs ys i W k).1 + ((P64 : Nat) : Int) ^ (i + k) * (tmR xs ys i W k).2 = lval P64 W + ((P64 : Nat) : Int) ^ i * (xs.getD i 0 * lval P64 (ys.take k)) := by
  induction k with
  | zero => simp [tmR, lval]
  | succ k ih =>
    have ih := ih (by omega)
    simp only [tmR]
    rw [lval_set _ _ _ _ (by rw [tmR_length]; omega), List.take_succ_eq_append_getElem (by omega), lval_append]
    have e : ys[k]'(by omega) = ys.getD k 0 := by rw [List.getD_eq_getElem?_getD, List.getElem?_eq_getElem (by omega)]; rfl
    rw [e, List.length_take, Nat.min_eq_left (by omega), Int.pow_add, Int.pow_add, Int.pow_succ]
    rw [Int.pow_add] at ih
    simp only [lval]
    have d := Int.emod_add_mul_ediv (xs.getD i 0 * ys.getD k 0 + (tmR xs ys i W k).1.getD (i + k) 0 + (tmR xs ys i W k).2) 18446744073709551616
    rw [show ((P64 : Nat) : Int) = 18446744073709551616 from rfl] at ih ⊢
    generalize (xs.getD i 0 * ys.getD k 0 + (tmR xs ys i W k).1.getD (i + k) 0 + (tmR xs ys i W k).2) % 18446744073709551616 = r at *
    generalize (xs.getD i 0 * ys.getD k 0 + (tmR xs ys i W k).1.getD (i + k) 0 + (tmR xs ys i W k).2) / 18446744073709551616 = q at *
    generalize (tmR xs ys i W k).1.getD (i + k) 0 = a at *
    generalize (tmR xs ys i W k).2 = c at *
    generalize ys.getD k 0 = b at *
    generalize xs.getD i 0 = z at *
    generalize (18446744073709551616 : Int) ^ k = P at *
    generalize (18446744073709551616 : Int) ^ i = Q at *
    generalize lval P64 (tmR xs ys i W k).1 = L at *
    generalize lval P64 (ys.take k) = T at *
    generalize lval P64 W = V at *
    grind
theorem tmR_rest (xs ys W : List Int) (i k : Nat) (hl : i + k ≤ W.length) : ∀ j, i + k ≤ j → (tmR xs ys i W k).1.getD j 0 = W.getD j 0 := by
  induction k with
  | zero => intro j _; rfl
  | succ k ih =>
    intro j hj
    simp only [tmR]
    rw [getD_setI _ _ _ _ (by rw [tmR_length]; omega), if_neg (by omega)]
    exact ih (by omega) j (by omega)
theorem tmW_rest (xs ys : List Int) (i : Nat) (hi : i ≤ 4) : ∀ j, i + 4 ≤ j → (tmW xs ys i).getD j 0 = 0 := by
  induction i with
  | zero => intro j _; exact rep_getD 8 j
  | succ i ih =>
    intro j hj
    simp only [tmW]
    rw [getD_setI _ _ _ _ (by rw [tmR_length, tmW_length]; omega), if_neg (by omega), tmR_rest _ _ _ _ _ (by rw [tmW_length]; omega) j (by omega)]
    exact ih (by omega) j (by omega)
theorem tmW_ok (x y i : Nat) (hi : i ≤ 4) : Ok P64 (tmW (num x) (num y) i) := by
  induction i with
  | zero =>
    intro z hz
    rw [List.eq_of_mem_replicate hz]
    exact ⟨by omega, by decide⟩
  | succ i ih =>
    have h := tmR_ok x y i (by omega) _ (ih (by omega)) (tmW_length _ _ _) 4 (by omega)
    simp only [tmW]
    exact ok_set h.1 _ _ h.2.1 (by rw [P64_eq]; have := h.2.2; omega)
theorem tmW_val (x y i : Nat) (hi : i ≤ 4) : lval P64 (tmW (num x) (num y) i) = lval P64 ((num x).take i) * lval P64 (num y) := by
  induction i with
  | zero => simp only [tmW, List.take_zero, lval, Int.zero_mul]; decide
  | succ i ih =>
    have hv := tmR_val (num x) (num y) (tmW (num x) (num y) i) i (by omega) (tmW_length _ _ _) (num_length y) 4 (by omega)
    rw [List.take_of_length_le (by rw [num_length]; omega), ih (by omega)] at hv
    simp only [tmW]
    rw [lval_set _ _ _ _ (by rw [tmR_length, tmW_length]; omega), tmR_rest _ _ _ _ _ (by rw [tmW_length]; omega) _ (Nat.le_refl _), tmW_rest _ _ _ (by omega) _ (Nat.le_refl _), List.take_succ_eq_append_getElem (by rw [num_length]; omega), lval_append]
    have e : (num x)[i]'(by rw [num_length]; omega) = (num x).getD i 0 := by rw [List.getD_eq_getElem?_getD, List.getElem?_eq_getElem (by rw [num_length]; omega)]; rfl
    rw [e, List.length_take, num_length, Nat.min_eq_left (by omega)]
    simp only [lval]
    generalize lval P64 (tmR (num x) (num y) i (tmW (num x) (num y) i) 4).1 = L at *
    generalize (tmR (num x) (num y) i (tmW (num x) (num y) i) 4).2 = c at *
    generalize lval P64 (num y) = Y at *
    generalize (num x).getD i 0 = a at *
    generalize ((P64 : Nat) : Int) ^ (i + 4) = R at *
    generalize ((P64 : Nat) : Int) ^ i = Q at *
    generalize lval P64 ((num x).take i) = T at *
    grind
theorem tm_wid (x y : Nat) (hx : x < BB) (hy : y < BB) : tmW (num x) (num y) 4 = wid (x * y) := by
  have hv := tmW_val x y 4 (by omega)
  have hb : P64 ^ 4 = BB := by decide
  rw [List.take_of_length_le (by rw [num_length]; omega), num_val, num_val, hb, Nat.mod_eq_of_lt hx, Nat.mod_eq_of_lt hy] at hv
  refine eq_wid (tmW_ok x y 4 (by omega)) (tmW_length _ _ _) (x * y) ?_
  have hlt : x * y < P64 ^ 8 := by
    rw [show P64 ^ 8 = BB * BB from by decide]
    exact Nat.mul_lt_mul'' hx hy
  rw [hv, Nat.mod_eq_of_lt hlt]
  simp
end Go.Proofs.Ytlajcahlmbjmnaa.FldT
