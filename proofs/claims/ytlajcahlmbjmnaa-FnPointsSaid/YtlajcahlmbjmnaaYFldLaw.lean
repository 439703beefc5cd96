/- Plain facts on the field modulo the prime, by elements' bytes; no program in sight. -/
import Derived.Test.YtlajcahlmbjmnaaYFldW
import Derived.Test.YtlajcahlmbjmnaaYMathAll
namespace Go.Proofs.Ytlajcahlmbjmnaa.FldLaw
open Go.RowKit Go.Proofs.Ytlajcahlmbjmnaa.Limb Go.Proofs.Ytlajcahlmbjmnaa.FldA Go.Proofs.Ytlajcahlmbjmnaa.FldB Go.Proofs.Ytlajcahlmbjmnaa.FldW Go.Proofs.Ytlajcahlmbjmnaa.FldP
set_option linter.unusedVariables false
theorem mod_lt (x : Nat) : x % PP < PP := Nat.mod_lt _ PP_pos
theorem square (a b : Nat) : (a + b) % PP * ((a + b) % PP) % PP = ((a * a % PP + b * b % PP) % PP + (a * b % PP + a * b % PP) % PP) % PP := by
  rw [← Nat.mul_mod]
  simp only [Nat.mod_add_mod, Nat.add_mod_mod]
  congr 1
  rw [Nat.add_mul, Nat.mul_add, Nat.mul_add, Nat.mul_comm b a]
  omega
theorem prime : Prime.Pr PP := Prime.pr_PP
theorem fermat (a : Nat) (h0 : a ≠ 0) (ha : a < PP) : a ^ (PP - 1) % PP = 1 := Prime.fermat prime (fun h => by
  have := Nat.le_of_dvd (Nat.pos_of_ne_zero h0) h
  omega)
theorem inverse (a : Nat) (h0 : a ≠ 0) (ha : a < PP) : a * (a ^ (PP - 2) % PP) % PP = 1 := by
  have h := fermat a h0 ha
  obtain ⟨n, hn⟩ : ∃ n, n = PP - 2 := ⟨_, rfl⟩
  have h2 : PP - 1 = n + 1 := by rw [hn]; decide
  rw [h2, Nat.pow_succ'] at h
  rw [← hn, Nat.mul_mod, Nat.mod_mod, ← Nat.mul_mod]
  exact h
end Go.Proofs.Ytlajcahlmbjmnaa.FldLaw
