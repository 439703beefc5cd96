/- A square has the root that is even; no program in sight. -/
import Derived.Test.YtlajcahlmbjmnaaYFldLaw
import Derived.Test.YtlajcahlmbjmnaaYFldRoot
namespace Go.Proofs.Ytlajcahlmbjmnaa.FldSqrt
open Go.RowKit Go.Proofs.Ytlajcahlmbjmnaa.Limb Go.Proofs.Ytlajcahlmbjmnaa.FldA Go.Proofs.Ytlajcahlmbjmnaa.FldB Go.Proofs.Ytlajcahlmbjmnaa.FldW Go.Proofs.Ytlajcahlmbjmnaa.FldP Go.Proofs.Ytlajcahlmbjmnaa.FldLaw Go.Proofs.Ytlajcahlmbjmnaa.FldRoot
set_option linter.unusedVariables false
theorem sq_half (r a : Nat) (hr : r < PP) (ha : a ≤ r) (h : r * r % PP = a * a % PP) : r = a ∨ r + a = PP := by
  have hd : PP ∣ (r - a) * (r + a) := by
    have e : (r - a) * (r + a) = r * r - a * a := by
      obtain ⟨d, rfl⟩ : ∃ d, r = a + d := ⟨r - a, by omega⟩
      have e1 : (a + d) * (a + d) = a * a + d * (a + d + a) := by
        simp only [Nat.mul_add, Nat.add_mul, Nat.mul_comm d a]
        omega
      rw [Nat.add_sub_cancel_left, e1, Nat.add_sub_cancel_left]
    rw [e]
    exact Nat.dvd_of_mod_eq_zero (Nat.sub_mod_eq_zero_of_mod_eq h)
  rcases prime.dvd_mul hd with h1 | h1
  · left
    rcases Nat.eq_zero_or_pos (r - a) with h2 | h2
    · omega
    · have := Nat.le_of_dvd h2 h1; omega
  · obtain ⟨k, hk⟩ := h1
    have hP := PP_pos
    have : k = 0 ∨ k = 1 := by
      rcases Nat.lt_or_ge k 2 with h3 | h3
      · omega
      · have := Nat.mul_le_mul_left PP h3; omega
    rcases this with rfl | rfl
    · left; omega
    · right; omega
theorem sq_cases (r a : Nat) (hr : r < PP) (ha : a < PP) (h : r * r % PP = a * a % PP) : r = a ∨ r + a = PP := by
  rcases Nat.le_total a r with h1 | h1
  · exact sq_half r a hr h1 h
  · rcases sq_half a r ha h1 h.symm with h2 | h2
    · exact Or.inl h2.symm
    · right; omega
theorem half (a : Nat) (h0 : a ≠ 0) (ha : a < PP) (n : Nat) (hn : n + n = PP - 1) : a ^ n % PP = 1 ∨ a ^ n % PP = PP - 1 := by
  have e := fermat a h0 ha
  rw [← hn, Nat.pow_add, Nat.mul_mod] at e
  have h1 := mod_lt (a ^ n)
  generalize a ^ n % PP = h at *
  rcases sq_cases h 1 h1 (by decide) (by rw [e]; decide) with h2 | h2
  · exact Or.inl h2
  · right; omega
theorem im_sq : imN * imN % PP = PP - 1 := by decide
theorem neg_neg : (PP - 1) * (PP - 1) % PP = 1 := by decide
theorem root_sq (a : Nat) (h0 : a ≠ 0) (ha : a < PP) : rt1 (a * a % PP) * rt1 (a * a % PP) % PP = a * a % PP := by
  obtain ⟨n, hn⟩ : ∃ n, n = (PP - 1) / 2 := ⟨_, rfl⟩
  have hn2 : n + n = PP - 1 := by rw [hn]; decide
  have hn4 : eR + eR + (eR + eR) = n + 2 := by rw [hn]; decide
  have hh := half a h0 ha n hn2
  have hs : rt0 (a * a % PP) * rt0 (a * a % PP) % PP = a ^ n % PP * (a * a % PP) % PP := by
    unfold rt0
    rw [← Nat.pow_mod, ← Nat.mul_mod, ← Nat.mul_mod, Nat.mul_pow, ← Nat.pow_add, ← Nat.pow_add, hn4, Nat.pow_add, Nat.pow_two]
  generalize a ^ n % PP = h at *
  have hsl := mod_lt (a * a)
  generalize a * a % PP = s at *
  unfold rt1
  generalize rt0 s = x at *
  by_cases hx : x * x % PP = s
  · rw [if_pos hx]; exact hx
  · rw [if_neg hx]
    have hP : h = PP - 1 := by
      rcases hh with h1 | h1
      · exfalso
        rw [h1, Nat.one_mul, Nat.mod_eq_of_lt hsl] at hs
        exact hx hs
      · exact h1
    have e : x * imN * (x * imN) = x * x * (imN * imN) := by
      rw [Nat.mul_assoc, Nat.mul_comm imN (x * imN), Nat.mul_assoc, ← Nat.mul_assoc x x]
    rw [← Nat.mul_mod, e, Nat.mul_mod, hs, im_sq, hP]
    rw [Nat.mul_mod, Nat.mod_mod, ← Nat.mul_mod, Nat.mul_comm ((PP - 1) * s), ← Nat.mul_assoc, Nat.mul_mod, neg_neg, Nat.mod_eq_of_lt hsl, Nat.one_mul, Nat.mod_eq_of_lt hsl]
theorem rt0_exp : ∃ n, 0 < n ∧ ∀ a, rt0 a = a ^ n % PP := ⟨eR, by decide, fun a => rfl⟩
theorem rt_zero : rt1 0 = 0 := by
  have h : rt0 0 = 0 := by
    obtain ⟨n, hn, hr⟩ := rt0_exp
    rw [hr 0, Nat.zero_pow hn, Nat.zero_mod]
  unfold rt1
  rw [h]
  rfl
theorem rt1_sq (a : Nat) (ha : a < PP) : rt1 (a * a % PP) * rt1 (a * a % PP) % PP = a * a % PP := by
  by_cases h0 : a = 0
  · subst h0
    rw [Nat.mul_zero, Nat.zero_mod, rt_zero, Nat.mul_zero, Nat.zero_mod]
  · exact root_sq a h0 ha
theorem PP_odd : PP % 2 = 1 := by decide
theorem rtV_even (s : Nat) : rtV s % 2 = 0 := by
  have h1 := rt1_lt s
  have hp := PP_odd
  unfold rtV
  split
  · rename_i h
    rw [Nat.mod_eq_of_lt (show PP - rt1 s < PP by omega)]
    omega
  · omega
theorem rtV_sq (s : Nat) : rtV s * rtV s % PP = rt1 s * rt1 s % PP := by
  have h1 := rt1_lt s
  unfold rtV
  split
  · rename_i h
    generalize rt1 s = z at *
    rw [Nat.mod_eq_of_lt (show PP - z < PP by omega)]
    obtain ⟨d, hd⟩ : ∃ d, d = PP - z := ⟨_, rfl⟩
    have hz : z = PP - d := by omega
    rw [← hd]
    have hPd : PP = z + d := by omega
    have e : d * d + PP * z = z * z + PP * d := by
      rw [hPd, Nat.add_mul, Nat.add_mul, Nat.mul_comm d z]; omega
    have e2 := congrArg (· % PP) e
    simp only [Nat.add_mul_mod_self_left] at e2
    exact e2
  · rfl
theorem rtOk_sq (a : Nat) (ha : a < PP) : rtOk (a * a % PP) = true := by
  unfold rtOk
  exact decide_eq_true (rt1_sq a ha)
theorem rtV_root (a : Nat) (ha : a < PP) : rtV (a * a % PP) * rtV (a * a % PP) % PP = a * a % PP := by
  rw [rtV_sq, rt1_sq a ha]
theorem rtV_cases (a : Nat) (ha : a < PP) : rtV (a * a % PP) = a ∨ rtV (a * a % PP) = (0 + PP - a) % PP := by
  rcases sq_cases _ a (rtV_lt _) ha (rtV_root a ha) with h | h
  · exact Or.inl h
  · right
    have := rtV_lt (a * a % PP)
    generalize rtV (a * a % PP) = r at *
    have hP := PP_pos
    rw [Nat.zero_add, Nat.mod_eq_of_lt (show PP - a < PP by omega)]
    omega
end Go.Proofs.Ytlajcahlmbjmnaa.FldSqrt
