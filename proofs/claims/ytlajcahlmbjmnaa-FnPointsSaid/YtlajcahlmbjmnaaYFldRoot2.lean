/- The reference's root of -1, and its exponents; no program in sight. -/
import Derived.Test.YtlajcahlmbjmnaaYFldRoot
import Derived.Test.YtlajcahlmbjmnaaYMathAll
namespace Go.Proofs.Ytlajcahlmbjmnaa.FldRoot
open Go.RowKit Go.Proofs.Ytlajcahlmbjmnaa.Arr Go.Proofs.Ytlajcahlmbjmnaa.Limb Go.Proofs.Ytlajcahlmbjmnaa.FldA Go.Proofs.Ytlajcahlmbjmnaa.FldB Go.Proofs.Ytlajcahlmbjmnaa.FldP Go.Proofs.Ytlajcahlmbjmnaa.FldW
set_option linter.unusedVariables false
def cuN : Nat := 37095705934669439343138083508754565189542113879843219016388785533085940283555
theorem im_pow : 2 ^ (expN 251 31) % PP = imN := by
  rw [← Prime.pm_eq PP 254 2 (expN 251 31) (by decide)]
  decide +kernel
theorem exp_r : expN 254 15 = eR := by decide
theorem rt0_mod (a : Nat) : a ^ (expN 254 15) % PP = rt0 (a % PP) := by
  rw [exp_r, rt0]
  exact Nat.pow_mod a eR PP
theorem neg_mod2 (d c : Nat) (h : (d + c) % PP = 0 % PP) : d % PP = (PP - c % PP) % PP := by
  have h1 := Nat.mod_lt d PP_pos
  have h2 := Nat.mod_lt c PP_pos
  rw [Nat.zero_mod, Nat.add_mod] at h
  generalize d % PP = x at *
  generalize c % PP = y at *
  rcases Nat.lt_or_ge (x + y) PP with h3 | h3
  · rw [Nat.mod_eq_of_lt h3] at h
    rw [show x = 0 by omega, show PP - y = PP by omega, Nat.mod_self]
  · rw [Nat.mod_eq_sub_mod h3, Nat.mod_eq_of_lt (by omega)] at h
    rw [Nat.mod_eq_of_lt (show PP - y < PP by omega)]
    omega
end Go.Proofs.Ytlajcahlmbjmnaa.FldRoot
namespace Go.Proofs.Ytlajcahlmbjmnaa.FldRoot2
theorem here : True := trivial
end Go.Proofs.Ytlajcahlmbjmnaa.FldRoot2
