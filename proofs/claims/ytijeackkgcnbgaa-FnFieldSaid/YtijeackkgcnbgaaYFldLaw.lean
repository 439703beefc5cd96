/- Plain facts on the field modulo the prime, by elements' bytes; no program in sight. -/
import Derived.Test.YtijeackkgcnbgaaYFldW
import Derived.Test.YtijeackkgcnbgaaYMathPrimeP
namespace Go.Proofs.Ytijeackkgcnbgaa.FldLaw
open Go.RowKit Go.Proofs.Ytijeackkgcnbgaa.Limb Go.Proofs.Ytijeackkgcnbgaa.FldA Go.Proofs.Ytijeackkgcnbgaa.FldB Go.Proofs.Ytijeackkgcnbgaa.FldW Go.Proofs.Ytijeackkgcnbgaa.FldP
set_option linter.unusedVariables false

/-- the bytes of an element -/
def el (x : Nat) : List Int := limbs 256 32 x
theorem el_length (x : Nat) : (el x).length = 32 := limbs_length _ _ _
theorem el_zero : el 0 = List.replicate 32 0 := by decide
theorem el_one : el 1 = [1] ++ List.replicate 31 0 := by decide
theorem mod_lt (x : Nat) : x % PP < PP := Nat.mod_lt _ PP_pos
theorem add_sub (a b : Nat) (ha : a < PP) (hb : b < PP) : ((a + b) % PP + PP - b) % PP = a := by
  rw [PP_eq] at *
  omega
theorem square (a b : Nat) : (a + b) % PP * ((a + b) % PP) % PP = ((a * a % PP + b * b % PP) % PP + (a * b % PP + a * b % PP) % PP) % PP := by
  rw [← Nat.mul_mod]
  simp only [Nat.mod_add_mod, Nat.add_mod_mod]
  congr 1
  rw [Nat.add_mul, Nat.mul_add, Nat.mul_add, Nat.mul_comm b a]
  omega
theorem prime : Prime.Pr PP := Prime.pr_PP
theorem fermat (a : Nat) (h0 : a ≠ 0) (ha : a < PP) : a ^ (PP - 1) % PP = 1 := Prime.fermat prime (fun h => by
  have := Nat.le_of_dvd (Nat.pos_of_ne_zero h0) h
  omega)
theorem inverse (a : Nat) (h0 : a ≠ 0) (ha : a < PP) : a * (a ^ (PP - 2) % PP) % PP = 1 := by
  have h := fermat a h0 ha
  obtain ⟨n, hn⟩ : ∃ n, n = PP - 2 := ⟨_, rfl⟩
  have h2 : PP - 1 = n + 1 := by rw [hn]; decide
  rw [h2, Nat.pow_succ'] at h
  rw [← hn, Nat.mul_mod, Nat.mod_mod, ← Nat.mul_mod]
  exact h
end Go.Proofs.Ytijeackkgcnbgaa.FldLaw
