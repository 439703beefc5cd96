/- Plain facts on a number of 512 bits made one below the prime; no program in sight. -/
import Derived.Test.YtijeackkgcnbgaaYFldP
namespace Go.Proofs.Ytijeackkgcnbgaa.FldW
open Go.RowKit Go.Proofs.Ytijeackkgcnbgaa.Arr Go.Proofs.Ytijeackkgcnbgaa.Limb Go.Proofs.Ytijeackkgcnbgaa.FldA Go.Proofs.Ytijeackkgcnbgaa.FldB Go.Proofs.Ytijeackkgcnbgaa.FldS Go.Proofs.Ytijeackkgcnbgaa.FldP Go.Proofs.YtijeackkgcnbgaaW.PrintWords
set_option linter.unusedVariables false

theorem b4 : P64 ^ 4 = BB := by decide
/-- the low half, the high half and what stands above of 38 times it, and the three sums -/
theorem red_ranges (W : Nat) (hW : W < BB * BB) : W / BB < BB ∧ W / BB * 38 / BB < 38 ∧ (W % BB + W / BB * 38 % BB) / BB < 2 := by
  have h1 : W / BB < BB := Nat.div_lt_of_lt_mul hW
  have h2 := Nat.mod_lt W (show 0 < BB by decide)
  have h3 := Nat.mod_lt (W / BB * 38) (show 0 < BB by decide)
  generalize W / BB = H at *
  generalize W % BB = L at *
  refine ⟨h1, ?_, ?_⟩
  · rw [Nat.div_lt_iff_lt_mul (show 0 < BB by decide), Nat.mul_comm]
    have : (0 : Nat) < 38 := by decide
    exact (Nat.mul_lt_mul_left this).2 h1
  · rw [Nat.div_lt_iff_lt_mul (show 0 < BB by decide)]
    omega
theorem red_sum (L H q c1 c2 l1 l2 p m : Nat) (hp : H * 38 = p + BB * q) (h1 : L + p = l1 + BB * c1) (hm : m = (q + c1) * 38) (h2 : l1 + m = l2 + BB * c2) (hl1 : l1 < BB) (hl2 : l2 < BB) (hmm : m ≤ 2000) : l2 + 38 * c2 < BB ∧ (l2 + 38 * c2) % PP = (L + BB * H) % PP := by
  rw [BB_eq] at *
  rw [PP_eq]
  constructor
  · omega
  · omega
theorem wid_top (x : Nat) (hx : x / BB < 38) : (wid x).getD 4 0 = ((x / BB : Nat) : Int) := by
  unfold wid
  rw [limbs_getD _ _ _ _ (by omega), b4, Nat.mod_eq_of_lt (by rw [P64_eq]; omega)]
theorem num_small (n : Nat) (hn : n < 18446744073709551616) : [(n : Int), 0, 0, 0] = num n := by
  unfold num
  simp only [limbs]
  rw [P64_eq, Nat.mod_eq_of_lt hn, Nat.div_eq_of_lt hn]
  simp
theorem num_zero (x : Nat) (hx : x < BB) : decide (x = 0) = decide (num x = [0, 0, 0, 0]) := by
  rw [decide_eq_decide]
  constructor
  · intro h; subst h; decide
  · intro h
    have hv := num_val x
    rw [h, b4, Nat.mod_eq_of_lt hx] at hv
    simp [lval] at hv
    omega
end Go.Proofs.Ytijeackkgcnbgaa.FldW
