/- Plain facts on the digits of doubled numbers and of differences; no program in sight. -/
import Derived.RowKit
namespace Go.Proofs.Ytlajcahlmbjmnaa.ModMath
set_option linter.unusedVariables false
def cD (v c M : Nat) : Nat := (2 * (v % M) + c) / M
theorem cD_one (v c : Nat) (hc : c < 2) : cD v c 1 = c := by unfold cD; rw [Nat.mod_one]; simp
theorem dbl0 (v c M : Nat) (hM : 0 < M) : (2 * v + c) / M = 2 * (v / M) + cD v c M := by
  have h : 2 * v + c = M * (2 * (v / M)) + (2 * (v % M) + c) := by
    have h1 := Nat.div_add_mod v M
    rw [show M * (2 * (v / M)) = 2 * (M * (v / M)) from by rw [Nat.mul_left_comm]]
    omega
  rw [h, Nat.mul_add_div hM]; rfl
theorem dbl1 (v c M : Nat) (hM : 0 < M) : (2 * (v / M % 256) + cD v c M) % 256 = (2 * v + c) / M % 256 := by
  rw [dbl0 v c M hM]; omega
theorem dbl2 (v c M : Nat) (hM : 0 < M) : (2 * (v / M % 256) + cD v c M) / 256 = cD v c (M * 256) := by
  have h : 2 * (v % (M * 256)) + c = M * (2 * (v / M % 256)) + (2 * (v % M) + c) := by
    rw [Nat.mod_mul, show M * (2 * (v / M % 256)) = 2 * (M * (v / M % 256)) from by rw [Nat.mul_left_comm]]
    omega
  unfold cD
  rw [h, ← Nat.div_div_eq_div_mul, Nat.mul_add_div hM]
theorem cD_le (v c M : Nat) (hM : 0 < M) (hc : c < 2) : cD v c M < 2 := by
  unfold cD
  have := Nat.mod_lt v hM
  rw [Nat.div_lt_iff_lt_mul hM]
  omega
def bo (v O M : Nat) : Nat := if v % M < O % M then 1 else 0
theorem bo_one (v O : Nat) : bo v O 1 = 0 := by unfold bo; rw [Nat.mod_one, Nat.mod_one]; rfl
theorem bo_le (v O M : Nat) : bo v O M < 2 := by unfold bo; split <;> omega
theorem sub0 (v O M : Nat) (hM : 0 < M) (h : O ≤ v) : (v - O) / M + O / M + bo v O M = v / M := by
  have h1 := Nat.div_add_mod v M
  have h2 := Nat.div_add_mod O M
  have r1 := Nat.mod_lt v hM
  have r2 := Nat.mod_lt O hM
  unfold bo
  generalize v / M = q at *
  generalize O / M = p at *
  generalize v % M = r at *
  generalize O % M = s at *
  split
  · rename_i hrs
    have hqp : p + 1 ≤ q := by
      rcases Nat.lt_or_ge p q with h3 | h3
      · exact h3
      · have := Nat.mul_le_mul_left M h3; omega
    obtain ⟨d, rfl⟩ : ∃ d, q = p + 1 + d := ⟨q - (p + 1), by omega⟩
    have e : v - O = M * d + (M + r - s) := by
      rw [Nat.mul_add, Nat.mul_add, Nat.mul_one] at h1; omega
    rw [e, Nat.mul_add_div hM, Nat.div_eq_of_lt (show M + r - s < M by omega)]
    omega
  · rename_i hrs
    have hqp : p ≤ q := by
      rcases Nat.lt_or_ge q p with h3 | h3
      · have := Nat.mul_le_mul_left M (show q + 1 ≤ p from h3); rw [Nat.mul_add, Nat.mul_one] at this; omega
      · exact h3
    obtain ⟨d, rfl⟩ : ∃ d, q = p + d := ⟨q - p, by omega⟩
    have e : v - O = M * d + (r - s) := by
      rw [Nat.mul_add] at h1; omega
    rw [e, Nat.mul_add_div hM, Nat.div_eq_of_lt (show r - s < M by omega)]
    omega
theorem bo_next (v O M : Nat) (hM : 0 < M) : bo v O (M * 256) = if v / M % 256 < O / M % 256 + bo v O M then 1 else 0 := by
  have r1 := Nat.mod_lt v hM
  have r2 := Nat.mod_lt O hM
  unfold bo
  rw [Nat.mod_mul, Nat.mod_mul]
  generalize v / M % 256 = q at *
  generalize O / M % 256 = p at *
  generalize v % M = r at *
  generalize O % M = s at *
  rcases Nat.lt_trichotomy q p with h | h | h
  · have := Nat.mul_le_mul_left M (show q + 1 ≤ p from h)
    rw [Nat.mul_add, Nat.mul_one] at this
    rw [if_pos (show r + M * q < s + M * p by omega), if_pos (by split <;> omega)]
  · subst h
    by_cases hrs : r < s
    · rw [if_pos (show r + M * q < s + M * q by omega), if_pos hrs, if_pos (by omega)]
    · rw [if_neg (show ¬ r + M * q < s + M * q by omega), if_neg hrs, if_neg (by omega)]
  · have := Nat.mul_le_mul_left M (show p + 1 ≤ q from h)
    rw [Nat.mul_add, Nat.mul_one] at this
    rw [if_neg (show ¬ r + M * q < s + M * p by omega), if_neg (by split <;> omega)]
theorem sub1 (v O M : Nat) (hM : 0 < M) (h : O ≤ v) : ((v - O) / M % 256 : Nat) = if v / M % 256 < O / M % 256 + bo v O M then v / M % 256 + 256 - (O / M % 256 + bo v O M) else v / M % 256 - (O / M % 256 + bo v O M) := by
  have h0 := sub0 v O M hM h
  have hb := bo_le v O M
  generalize bo v O M = b at *
  generalize v / M = q at *
  generalize O / M = p at *
  generalize (v - O) / M = d at *
  split <;> omega
theorem less_digit (v O M : Nat) (hM : 0 < M) (he : v / (M * 256) = O / (M * 256)) (hn : v / M % 256 ≠ O / M % 256) : decide (v / M % 256 < O / M % 256) = decide (v < O) := by
  have h1 := Nat.div_add_mod v M
  have h2 := Nat.div_add_mod O M
  have r1 := Nat.mod_lt v hM
  have r2 := Nat.mod_lt O hM
  rw [← Nat.div_div_eq_div_mul, ← Nat.div_div_eq_div_mul] at he
  generalize v / M = q at *
  generalize O / M = p at *
  generalize v % M = r at *
  generalize O % M = s at *
  rw [decide_eq_decide]
  constructor
  · intro h
    have := Nat.mul_le_mul_left M (show q + 1 ≤ p by omega)
    rw [Nat.mul_add, Nat.mul_one] at this
    omega
  · intro h
    rcases Nat.lt_or_ge (q % 256) (p % 256) with h3 | h3
    · exact h3
    · have := Nat.mul_le_mul_left M (show p + 1 ≤ q by omega)
      rw [Nat.mul_add, Nat.mul_one] at this
      omega
theorem eq_digit (v O M : Nat) (he : v / (M * 256) = O / (M * 256)) (hn : v / M % 256 = O / M % 256) : v / M = O / M := by
  rw [← Nat.div_div_eq_div_mul, ← Nat.div_div_eq_div_mul] at he
  generalize v / M = q at *
  generalize O / M = p at *
  omega
end Go.Proofs.Ytlajcahlmbjmnaa.ModMath
